/- The walk of the law 'ArtnodeKinds': a node beside a map. -/
import Derived.Test.YtinbibeapooghaaLAp
import Derived.Test.YtinbibeapooghaaLMu
set_option linter.unusedVariables false
set_option linter.unusedSimpArgs false
namespace Go.Proofs.Ytinbibeapooghaa.LF
open Go.RowKit
set_option linter.unusedVariables false
attribute [local irreducible] andThen inBlock LWp LOps LCalls

/-- No kind is of too few. -/
structure Few (k n : Nat) : Prop where
  a : k = 16 → 4 ≤ n
  b : k = 48 → 13 ≤ n
  c : k = 256 → 37 ≤ n
theorem Few.set {k : Nat} {l : Kv Int} (h : NodeOK k l) (f : Few k l.length) {c : Nat} (x : Int) : Few (setK k l c) (setL l c x).length := by
  rw [len_set h.ks]
  unfold setK
  cases hq : hasK l c with
  | true => exact f
  | false =>
    have hle := h.le
    obtain ⟨f1, f2, f3⟩ := f
    simp only [Bool.false_eq_true, if_false]
    unfold growK nextK
    rcases h.kind with rfl | rfl | rfl | rfl <;> (split <;> (refine ⟨fun e => ?_, fun e => ?_, fun e => ?_⟩ <;> simp at e f1 f2 f3 <;> omega))
theorem Few.drop {k : Nat} {l : Kv Int} (h : NodeOK k l) (f : Few k l.length) {c : Nat} : Few (dropK k l c) (delL l c).length := by
  rw [len_del h.ks]
  unfold dropK
  cases hq : hasK l c with
  | false => exact f
  | true =>
    obtain ⟨f1, f2, f3⟩ := f
    simp only [if_true]
    unfold shrinkK
    rcases h.kind with rfl | rfl | rfl | rfl <;> simp at f1 f2 f3 ⊢
    · exact ⟨(fun e => by cases e), (fun e => by cases e), (fun e => by cases e)⟩
    · split <;> exact ⟨(fun e => by omega), (fun e => by omega), (fun e => by omega)⟩
    · split <;> exact ⟨(fun e => by omega), (fun e => by omega), (fun e => by omega)⟩
    · split <;> exact ⟨(fun e => by omega), (fun e => by omega), (fun e => by omega)⟩

theorem alPut_len (k : Int) (v : Value) : ∀ l : List (Int × Value), (alPut l k v).length = if (alGet l k).isSome then l.length else l.length + 1
  | [] => rfl
  | p :: l => by
    unfold alPut alGet
    split
    · rfl
    · rw [List.length_cons, alPut_len k v l, List.length_cons]
      split <;> rfl
theorem alGet_mem {k : Int} {v : Value} : ∀ {l : List (Int × Value)}, alGet l k = some v → (k, v) ∈ l
  | [], h => by cases h
  | p :: l, h => by
    unfold alGet at h
    split at h
    · rename_i e
      obtain rfl : p.2 = v := by simpa using h
      subst e
      exact List.mem_cons_self
    · exact List.mem_cons_of_mem _ (alGet_mem h)
theorem alDel_len (k : Int) : ∀ l : List (Int × Value), (alDel l k).length = if (alGet l k).isSome then l.length - 1 else l.length
  | [] => rfl
  | p :: l => by
    unfold alDel alGet
    split
    · simp
    · rw [List.length_cons, alDel_len k l, List.length_cons]
      split
      · rename_i h
        cases l with
        | nil => cases h
        | cons => simp
      · rfl
def NoDup (l : List (Int × Value)) : Prop := l.Pairwise fun p q => p.1 ≠ q.1
theorem alGet_del {k : Int} : ∀ {l : List (Int × Value)}, NoDup l → ∀ j, alGet (alDel l k) j = if j = k then none else alGet l j
  | [], _, j => by simp [alDel, alGet]
  | p :: l, h, j => by
    obtain ⟨h1, h2⟩ := List.pairwise_cons.1 h
    unfold alDel
    split
    · rename_i e
      by_cases hj : j = k
      · rw [if_pos hj]
        cases hq : alGet l j with
        | none => rfl
        | some v => exact absurd (by rw [hj, e]) (h1 _ (alGet_mem hq)).symm
      · rw [if_neg hj]
        have : j ≠ p.1 := fun e2 => hj (e2.trans e.symm)
        simp [alGet, this]
    · rename_i e
      simp only [alGet, alGet_del h2 j]
      by_cases hj : j = p.1
      · have : j ≠ k := fun e2 => e (e2.symm.trans hj)
        rw [if_pos hj, if_neg this, if_pos hj]
      · rw [if_neg hj, if_neg hj]
theorem mem_alPut {k : Int} {v : Value} : ∀ {l : List (Int × Value)} {p : Int × Value}, p ∈ alPut l k v → p.1 = k ∨ p ∈ l
  | [], p, h => by simp [alPut] at h; exact .inl (by rw [h])
  | x :: l, p, h => by
    unfold alPut at h
    split at h
    · rcases List.mem_cons.1 h with rfl | h
      · exact .inl rfl
      · exact .inr (List.mem_cons_of_mem _ h)
    · rcases List.mem_cons.1 h with rfl | h
      · exact .inr List.mem_cons_self
      · exact (mem_alPut h).imp id (List.mem_cons_of_mem _)
theorem mem_alDel {k : Int} : ∀ {l : List (Int × Value)} {p : Int × Value}, p ∈ alDel l k → p ∈ l
  | [], p, h => h
  | x :: l, p, h => by
    unfold alDel at h
    split at h
    · exact List.mem_cons_of_mem _ h
    · rcases List.mem_cons.1 h with rfl | h
      · exact List.mem_cons_self
      · exact List.mem_cons_of_mem _ (mem_alDel h)
theorem NoDup.put {k : Int} {v : Value} : ∀ {l : List (Int × Value)}, NoDup l → NoDup (alPut l k v)
  | [], _ => List.pairwise_singleton ..
  | p :: l, h => by
    obtain ⟨h1, h2⟩ := List.pairwise_cons.1 h
    unfold alPut
    split
    · rename_i e
      exact List.pairwise_cons.2 ⟨fun q hq => by rw [show ((k, v) : Int × Value).1 = p.1 from e]; exact h1 q hq, h2⟩
    · rename_i e
      refine List.pairwise_cons.2 ⟨fun q hq => ?_, NoDup.put h2⟩
      rcases mem_alPut hq with e2 | hq
      · rw [e2]; exact fun e3 => e e3.symm
      · exact h1 q hq
theorem NoDup.del {k : Int} : ∀ {l : List (Int × Value)}, NoDup l → NoDup (alDel l k)
  | [], h => h
  | p :: l, h => by
    obtain ⟨h1, h2⟩ := List.pairwise_cons.1 h
    unfold alDel
    split
    · exact h2
    · exact List.pairwise_cons.2 ⟨fun q hq => h1 q (mem_alDel hq), NoDup.del h2⟩

/-- A map that has what the node has. -/
structure Last (al : List (Int × Value)) (ks : Kv Int) : Prop where
  get : ∀ c : Nat, c < 256 → alGet al ((c : Nat) : Int) = (lk ks c).map fun x => .int .i64 x
  len : al.length = ks.length
  nd : NoDup al
theorem Last.has {al : List (Int × Value)} {ks : Kv Int} (h : Last al ks) {c : Nat} (hc : c < 256) : (alGet al ((c : Nat) : Int)).isSome = hasK ks c := by rw [h.get c hc, hasK]; cases lk ks c <;> rfl
theorem Last.val {al : List (Int × Value)} {ks : Kv Int} (h : Last al ks) {c : Nat} (hc : c < 256) : (alGet al ((c : Nat) : Int)).getD (.int .i64 0) = .int .i64 ((lk ks c).getD 0) := by rw [h.get c hc]; cases lk ks c <;> rfl
theorem Last.put {al : List (Int × Value)} {ks : Kv Int} (h : Last al ks) (hk : KS ks) {c : Nat} (hc : c < 256) (x : Int) : Last (alPut al ((c : Nat) : Int) (.int .i64 x)) (setL ks c x) := by
  refine ⟨fun d hd => ?_, ?_, h.nd.put⟩
  · rw [alGet_put, lk_set]
    by_cases e : d = c
    · rw [if_pos e, if_pos (by rw [e])]; rfl
    · rw [if_neg e, if_neg (by omega)]; exact h.get d hd
  · rw [alPut_len, len_set hk, h.has hc, h.len]
theorem Last.del {al : List (Int × Value)} {ks : Kv Int} (h : Last al ks) (hk : KS ks) {c : Nat} (hc : c < 256) : Last (alDel al ((c : Nat) : Int)) (delL ks c) := by
  refine ⟨fun d hd => ?_, ?_, h.nd.del⟩
  · rw [alGet_del h.nd, lk_del hk]
    by_cases e : d = c
    · rw [if_pos e, if_pos (by rw [e])]; rfl
    · rw [if_neg e, if_neg (by omega)]; exact h.get d hd
  · rw [alDel_len, len_del hk, h.has hc, h.len]
theorem Last.nil : Last [] [] := ⟨fun c _ => rfl, rfl, .nil⟩

theorem LS.le.setObjNew {S0 S : LS} (h : S0.le S) {m : Nat} (hm : S0.obj m = Option.none) (o : Obj) : S0.le (S.setObj m o) where
  box := h.box
  row := h.row
  obj := fun b x hb => by
    have hb2 := h.obj b x hb
    have hne : Nat.beq b m = false := by
      cases hq : Nat.beq b m with
      | false => rfl
      | true =>
        have := Nat.eq_of_beq_eq_true hq
        subst this
        rw [hm] at hb; cases hb
    show (bif Nat.beq b m then some o else S.obj b) = some x
    rw [hne]; exact hb2
  top := Nat.le_trans h.top (Nat.le_max_left _ _)
/-- The least number of a kind. -/
def fewOf (k : Nat) : Nat := if k = 16 then 4 else if k = 48 then 13 else if k = 256 then 37 else 0
theorem Few.le {k n : Nat} (h : Few k n) : fewOf k ≤ n := by
  unfold fewOf
  split
  · exact h.a (by assumption)
  · split
    · exact h.b (by assumption)
    · split
      · exact h.c (by assumption)
      · omega

set_option maxHeartbeats 16000000 in
set_option maxRecDepth 20000 in
theorem kinds_L {G : Ctx} (hP : G.P = Try.prog) (l : List Nat) (hl : ∀ a ∈ l, a < 256) (below : Int) (S : LS) :
    LCalls G 5 [.one (.sl .sh (l.map bL)), .one (iv below)] (fun r _ => r = .one (bv true)) S := by
  have hD : TabOK G.P D := by rw [hP]; exact hD0
  refine LCalls.enter (fn := Try.f5) (by rw [hP]; exact Try.func5) rfl rfl ?_
  repeat (first | refine LOps.nil ?_ | refine andThen_normal ?_ | refine andThen_exit ?_ | refine andThen_ret ?_ | refine inBlock_normal ?_ | refine inBlock_ret ?_ | refine inBlock_here ?_ | refine inBlock_out rfl ?_ | refine LWp.seq ?_ | refine LWp.region ?_ | refine LWp.block ?_ | refine LWp.exit ?_ | refine LWp.ret ?_ | refine LWp.skip ?_ | refine LOps.valA ?_ | refine LOps.outA ?_ | refine LOps.whenA ?_ | refine LOps.pickA ?_ | refine LOps.storeA ?_)
  refine LWp.cond rfl (fun h => ?_) (fun h => ?_)
  · repeat (first | refine LOps.nil ?_ | refine andThen_normal ?_ | refine andThen_exit ?_ | refine andThen_ret ?_ | refine inBlock_normal ?_ | refine inBlock_ret ?_ | refine inBlock_here ?_ | refine inBlock_out rfl ?_ | refine LWp.seq ?_ | refine LWp.region ?_ | refine LWp.block ?_ | refine LWp.exit ?_ | refine LWp.ret ?_ | refine LWp.skip ?_ | refine LOps.valA ?_ | refine LOps.outA ?_ | refine LOps.whenA ?_ | refine LOps.pickA ?_ | refine LOps.storeA ?_)
    refine LOps.do (LDo.callF (wakes_L hP _) (by rw [hP]; exact Try.func8)) rfl rfl rfl ?_
    rintro _ S1 ⟨rfl, _⟩
    repeat (first | refine LOps.nil ?_ | refine andThen_normal ?_ | refine andThen_exit ?_ | refine andThen_ret ?_ | refine inBlock_normal ?_ | refine inBlock_ret ?_ | refine inBlock_here ?_ | refine inBlock_out rfl ?_ | refine LWp.seq ?_ | refine LWp.region ?_ | refine LWp.block ?_ | refine LWp.exit ?_ | refine LWp.ret ?_ | refine LWp.skip ?_ | refine LOps.valA ?_ | refine LOps.outA ?_ | refine LOps.whenA ?_ | refine LOps.pickA ?_ | refine LOps.storeA ?_)
    exact ⟨_, LRes.one rfl, rfl⟩
  have hlen : l.length ≤ 400 := by simp at h; omega
  repeat (first | refine LOps.nil ?_ | refine andThen_normal ?_ | refine andThen_exit ?_ | refine andThen_ret ?_ | refine inBlock_normal ?_ | refine inBlock_ret ?_ | refine inBlock_here ?_ | refine inBlock_out rfl ?_ | refine LWp.seq ?_ | refine LWp.region ?_ | refine LWp.block ?_ | refine LWp.exit ?_ | refine LWp.ret ?_ | refine LWp.skip ?_ | refine LOps.valA ?_ | refine LOps.outA ?_ | refine LOps.whenA ?_ | refine LOps.pickA ?_ | refine LOps.storeA ?_)
  refine LOps.do (LDo.callF (newI_L hP _) (by rw [hP]; exact Try.func9)) rfl rfl rfl ?_
  rintro _ S1 ⟨b, F, rfl, le1, new1, h1⟩
  repeat (first | refine LOps.nil ?_ | refine andThen_normal ?_ | refine andThen_exit ?_ | refine andThen_ret ?_ | refine inBlock_normal ?_ | refine inBlock_ret ?_ | refine inBlock_here ?_ | refine inBlock_out rfl ?_ | refine LWp.seq ?_ | refine LWp.region ?_ | refine LWp.block ?_ | refine LWp.exit ?_ | refine LWp.ret ?_ | refine LWp.skip ?_ | refine LOps.valA ?_ | refine LOps.outA ?_ | refine LOps.whenA ?_ | refine LOps.pickA ?_ | refine LOps.storeA ?_)
  refine LOps.do (LDo.makeMap rfl) rfl rfl rfl ?_
  rintro _ _ ⟨m, hm, rfl, rfl⟩
  have sm : S.obj m = none := by
    cases hq : S.obj m with
    | none => rfl
    | some o => have := le1.obj _ _ hq; rw [hm.obj] at this; cases this
  have hO : OwnI S (S1.setObj m (.map #[] 0)) F b 4 [] := ⟨le1.setObjNew sm _, new1, h1.keep fun c cs _ hc => hc⟩
  have hM := MapK.new .u8 S1 m
  clear le1 new1 h1 hm
  repeat (first | refine LOps.nil ?_ | refine andThen_normal ?_ | refine andThen_exit ?_ | refine andThen_ret ?_ | refine inBlock_normal ?_ | refine inBlock_ret ?_ | refine inBlock_here ?_ | refine inBlock_out rfl ?_ | refine LWp.seq ?_ | refine LWp.region ?_ | refine LWp.block ?_ | refine LWp.exit ?_ | refine LWp.ret ?_ | refine LWp.skip ?_ | refine LOps.valA ?_ | refine LOps.outA ?_ | refine LOps.whenA ?_ | refine LOps.pickA ?_ | refine LOps.storeA ?_)
  refine LWp.loop (fun q T S' => ∃ (T' : Nat → TV) (j : Nat) (F : Nat → Prop) (k : Nat) (ks : Kv Int) (al : List (Int × Value)), j ≤ l.length ∧ q = l.length - j ∧ OwnI S S' F b k ks ∧ MapK .u8 S' m al ∧ Last al ks ∧ Few k ks.length ∧
      T = over T' [(0, .one (.sl .sh (l.map bL))), (1, .one (iv below)), (5, ptr b), (6, .one (.v (.map (some m)))), (7, .one (iv (j : Nat)))]) l.length ?_ ?_
  · exact ⟨_, 0, F, 4, [], [], by omega, by omega, hO, hM, .nil, ⟨(fun e => by cases e), (fun e => by cases e), (fun e => by cases e)⟩, holds.over ⟨rfl, rfl, rfl, rfl, rfl, trivial⟩⟩
  clear hO hM F S1
  rintro q T S1 ⟨T', j, F, k, ks, al, hj, rfl, hO, hM, hL, hF, rfl⟩
  repeat (first | refine LOps.nil ?_ | refine andThen_normal ?_ | refine andThen_exit ?_ | refine andThen_ret ?_ | refine inBlock_normal ?_ | refine inBlock_ret ?_ | refine inBlock_here ?_ | refine inBlock_out rfl ?_ | refine LWp.seq ?_ | refine LWp.region ?_ | refine LWp.block ?_ | refine LWp.exit ?_ | refine LWp.ret ?_ | refine LWp.skip ?_ | refine LOps.valA ?_ | refine LOps.outA ?_ | refine LOps.whenA ?_ | refine LOps.pickA ?_ | refine LOps.storeA ?_)
  refine LWp.cond rfl (fun h => ?_) (fun h => ?_)
  · have hlt : j < l.length := by simpa using h
    have hc := hl _ (List.getElem_mem hlt)
    have ew : IntKind.i64.wrap ((l[j] : Nat) : Int) = ((l[j] : Nat) : Int) := wrap64_small (by omega)
    have look : ∀ {ks : Kv Int} {al : List (Int × Value)} {S1 : LS}, MapK .u8 S1 m al → Last al ks → ∀ {o : Oper} {T : Nat → TV} {x ix : Operand}, o.op = .lookup 43 x ix true → lev T x = .one (.v (.map (some m))) → lev T ix = .one (uv (l[j] : Nat)) → LVal G o T S1 (getI ks l[j]) := fun hM hL => @fun o T x ix ho hx hix =>
      LVal.to (LVal.lookupOk hD hM ho hx hix rfl rfl rfl rfl rfl (hL.val hc) rfl) (by rw [hL.has hc]; rfl)
    repeat (first | refine LOps.valH (look hM hL rfl rfl rfl) ?_ | refine LWp.seq (LWp.cut 10 (fun T1 S2 => ∃ (T2 : Nat → TV) (F : Nat → Prop) (k : Nat) (ks : Kv Int) (al : List (Int × Value)), OwnI S S2 F b k ks ∧ MapK .u8 S2 m al ∧ Last al ks ∧ Few k ks.length ∧ T1 = over T2 [(0, .one (.sl .sh (l.map bL))), (1, .one (iv below)), (5, ptr b), (6, .one (.v (.map (some m)))), (7, .one (iv (j : Nat))), (8, .one (uv (l[j] : Nat)))]) rfl ?_ ?_) | refine LOps.nil ?_ | refine andThen_normal ?_ | refine andThen_exit ?_ | refine andThen_ret ?_ | refine inBlock_normal ?_ | refine inBlock_ret ?_ | refine inBlock_here ?_ | refine inBlock_out rfl ?_ | refine LWp.seq ?_ | refine LWp.region ?_ | refine LWp.block ?_ | refine LWp.exit ?_ | refine LWp.ret ?_ | refine LWp.skip ?_ | refine LOps.valA ?_ | refine LOps.outA ?_ | refine LOps.whenA ?_ | refine LOps.pickA ?_ | refine LOps.storeA ?_)
    · repeat (first | refine LOps.valH (r := .one (iv (l[j] : Nat))) (LVal.to (LVal.convInt hD rfl rfl rfl rfl rfl) (by rw [ew])) ?_ | refine LOps.nil ?_ | refine andThen_normal ?_ | refine andThen_exit ?_ | refine andThen_ret ?_ | refine inBlock_normal ?_ | refine inBlock_ret ?_ | refine inBlock_here ?_ | refine inBlock_out rfl ?_ | refine LWp.seq ?_ | refine LWp.region ?_ | refine LWp.block ?_ | refine LWp.exit ?_ | refine LWp.ret ?_ | refine LWp.skip ?_ | refine LOps.valA ?_ | refine LOps.outA ?_ | refine LOps.whenA ?_ | refine LOps.pickA ?_ | refine LOps.storeA ?_)
      refine LWp.cond rfl (fun h => ?_) (fun h => ?_)
      · repeat (first | refine LOps.nil ?_ | refine andThen_normal ?_ | refine andThen_exit ?_ | refine andThen_ret ?_ | refine inBlock_normal ?_ | refine inBlock_ret ?_ | refine inBlock_here ?_ | refine inBlock_out rfl ?_ | refine LWp.seq ?_ | refine LWp.region ?_ | refine LWp.block ?_ | refine LWp.exit ?_ | refine LWp.ret ?_ | refine LWp.skip ?_ | refine LOps.valA ?_ | refine LOps.outA ?_ | refine LOps.whenA ?_ | refine LOps.pickA ?_ | refine LOps.storeA ?_)
        refine LOps.do (LDo.callF (dropI_L hP hO.node hc) (by rw [hP]; exact Try.func13)) rfl rfl rfl ?_
        rintro _ S2 ⟨rfl, F2, h2, m2⟩
        have hM2 : MapK .u8 S2 m al := hM.obj fun o ho => m2.obj _ _ ho
        repeat (first | refine LWp.condF rfl ?_ | refine LOps.nil ?_ | refine andThen_normal ?_ | refine andThen_exit ?_ | refine andThen_ret ?_ | refine inBlock_normal ?_ | refine inBlock_ret ?_ | refine inBlock_here ?_ | refine inBlock_out rfl ?_ | refine LWp.seq ?_ | refine LWp.region ?_ | refine LWp.block ?_ | refine LWp.exit ?_ | refine LWp.ret ?_ | refine LWp.skip ?_ | refine LOps.valA ?_ | refine LOps.outA ?_ | refine LOps.whenA ?_ | refine LOps.pickA ?_ | refine LOps.storeA ?_)
        refine LOps.do0 (LDo.mapDelete hD hM2 rfl rfl rfl rfl rfl rfl rfl rfl) rfl rfl ?_
        rintro _ _ ⟨rfl, o, rfl, hM3⟩
        have hO2 := hO.next h2 m2
        have hO3 : OwnI S (S2.setObj m o) F2 b (dropK k ks l[j]) (delL ks l[j]) := ⟨hO2.le.setObjNew sm _, hO2.new, hO2.node.keep fun c cs _ hc => hc⟩
        repeat (first | refine LOps.nil ?_ | refine andThen_normal ?_ | refine andThen_exit ?_ | refine andThen_ret ?_ | refine inBlock_normal ?_ | refine inBlock_ret ?_ | refine inBlock_here ?_ | refine inBlock_out rfl ?_ | refine LWp.seq ?_ | refine LWp.region ?_ | refine LWp.block ?_ | refine LWp.exit ?_ | refine LWp.ret ?_ | refine LWp.skip ?_ | refine LOps.valA ?_ | refine LOps.outA ?_ | refine LOps.whenA ?_ | refine LOps.pickA ?_ | refine LOps.storeA ?_)
        exact ⟨_, F2, _, _, _, hO3, hM3, hL.del hO.node.ok.ks hc, hF.drop hO.node.ok, holds.over ⟨rfl, rfl, rfl, rfl, rfl, rfl, trivial⟩⟩
      · repeat (first | refine LOps.nil ?_ | refine andThen_normal ?_ | refine andThen_exit ?_ | refine andThen_ret ?_ | refine inBlock_normal ?_ | refine inBlock_ret ?_ | refine inBlock_here ?_ | refine inBlock_out rfl ?_ | refine LWp.seq ?_ | refine LWp.region ?_ | refine LWp.block ?_ | refine LWp.exit ?_ | refine LWp.ret ?_ | refine LWp.skip ?_ | refine LOps.valA ?_ | refine LOps.outA ?_ | refine LOps.whenA ?_ | refine LOps.pickA ?_ | refine LOps.storeA ?_)
        refine LOps.do (LDo.callF (setI_L hP hO.node hc (j : Int)) (by rw [hP]; exact Try.func11)) rfl rfl rfl ?_
        rintro _ S2 ⟨rfl, F2, h2, m2⟩
        have hM2 : MapK .u8 S2 m al := hM.obj fun o ho => m2.obj _ _ ho
        repeat (first | refine LOps.nil ?_ | refine andThen_normal ?_ | refine andThen_exit ?_ | refine andThen_ret ?_ | refine inBlock_normal ?_ | refine inBlock_ret ?_ | refine inBlock_here ?_ | refine inBlock_out rfl ?_ | refine LWp.seq ?_ | refine LWp.region ?_ | refine LWp.block ?_ | refine LWp.exit ?_ | refine LWp.ret ?_ | refine LWp.skip ?_ | refine LOps.valA ?_ | refine LOps.outA ?_ | refine LOps.whenA ?_ | refine LOps.pickA ?_ | refine LOps.storeA ?_)
        refine LWp.cond rfl (fun h => ?_) (fun h => ?_)
        · have h : ((!hasK ks l[j]) == hasK ks l[j]) = true := h
          cases hq : hasK ks l[j] <;> rw [hq] at h <;> cases h
        repeat (first | refine LOps.nil ?_ | refine andThen_normal ?_ | refine andThen_exit ?_ | refine andThen_ret ?_ | refine inBlock_normal ?_ | refine inBlock_ret ?_ | refine inBlock_here ?_ | refine inBlock_out rfl ?_ | refine LWp.seq ?_ | refine LWp.region ?_ | refine LWp.block ?_ | refine LWp.exit ?_ | refine LWp.ret ?_ | refine LWp.skip ?_ | refine LOps.valA ?_ | refine LOps.outA ?_ | refine LOps.whenA ?_ | refine LOps.pickA ?_ | refine LOps.storeA ?_)
        refine LOps.do0 (LDo.mapUpdateK (v := .int .i64 (j : Int)) hD rfl rfl rfl rfl rfl rfl rfl rfl rfl hM2) rfl rfl ?_
        rintro _ _ ⟨rfl, o, rfl, hM3⟩
        have hO2 := hO.next h2 m2
        have hO3 : OwnI S (S2.setObj m o) F2 b (setK k ks l[j]) (setL ks l[j] (j : Int)) := ⟨hO2.le.setObjNew sm _, hO2.new, hO2.node.keep fun c cs _ hc => hc⟩
        repeat (first | refine LOps.nil ?_ | refine andThen_normal ?_ | refine andThen_exit ?_ | refine andThen_ret ?_ | refine inBlock_normal ?_ | refine inBlock_ret ?_ | refine inBlock_here ?_ | refine inBlock_out rfl ?_ | refine LWp.seq ?_ | refine LWp.region ?_ | refine LWp.block ?_ | refine LWp.exit ?_ | refine LWp.ret ?_ | refine LWp.skip ?_ | refine LOps.valA ?_ | refine LOps.outA ?_ | refine LOps.whenA ?_ | refine LOps.pickA ?_ | refine LOps.storeA ?_)
        exact ⟨_, F2, _, _, _, hO3, hM3, hL.put hO.node.ok.ks hc (j : Int), hF.set hO.node.ok (j : Int), holds.over ⟨rfl, rfl, rfl, rfl, rfl, rfl, trivial⟩⟩
    clear hO hM hL hF F k ks al S1
    rintro T1 S1 ⟨T2, F, k, ks, al, hO, hM, hL, hF, rfl⟩
    have c1 := nodeI_kind hP hO.node
    have c2 := nodeI_len hP hO.node
    have c3 := nodeI_get hP hO.node hc
    have hlm : ∀ {o : Oper} {T : Nat → TV} {x : Operand}, o.op = .call { callee := .builtin .len, args := #[x], argTypes := #[43] } → lev T x = .one (.v (.map (some m))) → LVal G o T S1 (.one (iv (ks.length : Nat))) := @fun o T x ho hx => by
      rw [← hL.len]
      exact LVal.lenMap hD hM ho hx rfl rfl
    repeat (first | refine LOps.valH (LVal.callS c1 (by rw [hP]; exact Try.func21) rfl rfl rfl (by decide)) ?_ | refine LWp.seq (LWp.cut 19 (fun T1 S2 => S2 = S1 ∧ ∃ (T2 : Nat → TV), T1 = over T2 [(0, .one (.sl .sh (l.map bL))), (1, .one (iv below)), (5, ptr b), (6, .one (.v (.map (some m)))), (7, .one (iv (j : Nat))), (8, .one (uv (l[j] : Nat))), (11, .one (iv (k : Nat))), (12, .one (iv (fewOf k : Nat)))]) rfl ?_ ?_) | refine LOps.nil ?_ | refine andThen_normal ?_ | refine andThen_exit ?_ | refine andThen_ret ?_ | refine inBlock_normal ?_ | refine inBlock_ret ?_ | refine inBlock_here ?_ | refine inBlock_out rfl ?_ | refine LWp.seq ?_ | refine LWp.region ?_ | refine LWp.block ?_ | refine LWp.exit ?_ | refine LWp.ret ?_ | refine LWp.skip ?_ | refine LOps.valA ?_ | refine LOps.outA ?_ | refine LOps.whenA ?_ | refine LOps.pickA ?_ | refine LOps.storeA ?_)
    · rcases hO.node.ok.kind with rfl | rfl | rfl | rfl
      · repeat (first | refine LWp.condT rfl ?_ | refine LOps.nil ?_ | refine andThen_normal ?_ | refine andThen_exit ?_ | refine andThen_ret ?_ | refine inBlock_normal ?_ | refine inBlock_ret ?_ | refine inBlock_here ?_ | refine inBlock_out rfl ?_ | refine LWp.seq ?_ | refine LWp.region ?_ | refine LWp.block ?_ | refine LWp.exit ?_ | refine LWp.ret ?_ | refine LWp.skip ?_ | refine LOps.valA ?_ | refine LOps.outA ?_ | refine LOps.whenA ?_ | refine LOps.pickA ?_ | refine LOps.storeA ?_)
        exact ⟨rfl, _, holds.over ⟨rfl, rfl, rfl, rfl, rfl, rfl, rfl, rfl, trivial⟩⟩
      · repeat (first | refine LWp.condF rfl ?_ | refine LOps.nil ?_ | refine andThen_normal ?_ | refine andThen_exit ?_ | refine andThen_ret ?_ | refine inBlock_normal ?_ | refine inBlock_ret ?_ | refine inBlock_here ?_ | refine inBlock_out rfl ?_ | refine LWp.seq ?_ | refine LWp.region ?_ | refine LWp.block ?_ | refine LWp.exit ?_ | refine LWp.ret ?_ | refine LWp.skip ?_ | refine LOps.valA ?_ | refine LOps.outA ?_ | refine LOps.whenA ?_ | refine LOps.pickA ?_ | refine LOps.storeA ?_)
        repeat (first | refine LWp.condT rfl ?_ | refine LOps.nil ?_ | refine andThen_normal ?_ | refine andThen_exit ?_ | refine andThen_ret ?_ | refine inBlock_normal ?_ | refine inBlock_ret ?_ | refine inBlock_here ?_ | refine inBlock_out rfl ?_ | refine LWp.seq ?_ | refine LWp.region ?_ | refine LWp.block ?_ | refine LWp.exit ?_ | refine LWp.ret ?_ | refine LWp.skip ?_ | refine LOps.valA ?_ | refine LOps.outA ?_ | refine LOps.whenA ?_ | refine LOps.pickA ?_ | refine LOps.storeA ?_)
        exact ⟨rfl, _, holds.over ⟨rfl, rfl, rfl, rfl, rfl, rfl, rfl, rfl, trivial⟩⟩
      · repeat (first | refine LWp.condF rfl ?_ | refine LOps.nil ?_ | refine andThen_normal ?_ | refine andThen_exit ?_ | refine andThen_ret ?_ | refine inBlock_normal ?_ | refine inBlock_ret ?_ | refine inBlock_here ?_ | refine inBlock_out rfl ?_ | refine LWp.seq ?_ | refine LWp.region ?_ | refine LWp.block ?_ | refine LWp.exit ?_ | refine LWp.ret ?_ | refine LWp.skip ?_ | refine LOps.valA ?_ | refine LOps.outA ?_ | refine LOps.whenA ?_ | refine LOps.pickA ?_ | refine LOps.storeA ?_)
        repeat (first | refine LWp.condF rfl ?_ | refine LOps.nil ?_ | refine andThen_normal ?_ | refine andThen_exit ?_ | refine andThen_ret ?_ | refine inBlock_normal ?_ | refine inBlock_ret ?_ | refine inBlock_here ?_ | refine inBlock_out rfl ?_ | refine LWp.seq ?_ | refine LWp.region ?_ | refine LWp.block ?_ | refine LWp.exit ?_ | refine LWp.ret ?_ | refine LWp.skip ?_ | refine LOps.valA ?_ | refine LOps.outA ?_ | refine LOps.whenA ?_ | refine LOps.pickA ?_ | refine LOps.storeA ?_)
        repeat (first | refine LWp.condT rfl ?_ | refine LOps.nil ?_ | refine andThen_normal ?_ | refine andThen_exit ?_ | refine andThen_ret ?_ | refine inBlock_normal ?_ | refine inBlock_ret ?_ | refine inBlock_here ?_ | refine inBlock_out rfl ?_ | refine LWp.seq ?_ | refine LWp.region ?_ | refine LWp.block ?_ | refine LWp.exit ?_ | refine LWp.ret ?_ | refine LWp.skip ?_ | refine LOps.valA ?_ | refine LOps.outA ?_ | refine LOps.whenA ?_ | refine LOps.pickA ?_ | refine LOps.storeA ?_)
        exact ⟨rfl, _, holds.over ⟨rfl, rfl, rfl, rfl, rfl, rfl, rfl, rfl, trivial⟩⟩
      · repeat (first | refine LWp.condF rfl ?_ | refine LOps.nil ?_ | refine andThen_normal ?_ | refine andThen_exit ?_ | refine andThen_ret ?_ | refine inBlock_normal ?_ | refine inBlock_ret ?_ | refine inBlock_here ?_ | refine inBlock_out rfl ?_ | refine LWp.seq ?_ | refine LWp.region ?_ | refine LWp.block ?_ | refine LWp.exit ?_ | refine LWp.ret ?_ | refine LWp.skip ?_ | refine LOps.valA ?_ | refine LOps.outA ?_ | refine LOps.whenA ?_ | refine LOps.pickA ?_ | refine LOps.storeA ?_)
        repeat (first | refine LWp.condF rfl ?_ | refine LOps.nil ?_ | refine andThen_normal ?_ | refine andThen_exit ?_ | refine andThen_ret ?_ | refine inBlock_normal ?_ | refine inBlock_ret ?_ | refine inBlock_here ?_ | refine inBlock_out rfl ?_ | refine LWp.seq ?_ | refine LWp.region ?_ | refine LWp.block ?_ | refine LWp.exit ?_ | refine LWp.ret ?_ | refine LWp.skip ?_ | refine LOps.valA ?_ | refine LOps.outA ?_ | refine LOps.whenA ?_ | refine LOps.pickA ?_ | refine LOps.storeA ?_)
        repeat (first | refine LWp.condF rfl ?_ | refine LOps.nil ?_ | refine andThen_normal ?_ | refine andThen_exit ?_ | refine andThen_ret ?_ | refine inBlock_normal ?_ | refine inBlock_ret ?_ | refine inBlock_here ?_ | refine inBlock_out rfl ?_ | refine LWp.seq ?_ | refine LWp.region ?_ | refine LWp.block ?_ | refine LWp.exit ?_ | refine LWp.ret ?_ | refine LWp.skip ?_ | refine LOps.valA ?_ | refine LOps.outA ?_ | refine LOps.whenA ?_ | refine LOps.pickA ?_ | refine LOps.storeA ?_)
        repeat (first | refine LWp.condT rfl ?_ | refine LOps.nil ?_ | refine andThen_normal ?_ | refine andThen_exit ?_ | refine andThen_ret ?_ | refine inBlock_normal ?_ | refine inBlock_ret ?_ | refine inBlock_here ?_ | refine inBlock_out rfl ?_ | refine LWp.seq ?_ | refine LWp.region ?_ | refine LWp.block ?_ | refine LWp.exit ?_ | refine LWp.ret ?_ | refine LWp.skip ?_ | refine LOps.valA ?_ | refine LOps.outA ?_ | refine LOps.whenA ?_ | refine LOps.pickA ?_ | refine LOps.storeA ?_)
        exact ⟨rfl, _, holds.over ⟨rfl, rfl, rfl, rfl, rfl, rfl, rfl, rfl, trivial⟩⟩
    rintro T1 S1 ⟨rfl, T3, rfl⟩
    have hle := hO.node.ok.le
    have hfew := hF.le
    repeat (first | refine LOps.valH (LVal.callS c2 (by rw [hP]; exact Try.func20) rfl rfl rfl (by decide)) ?_ | refine LOps.valH (hlm rfl rfl) ?_ | refine LOps.whenC (hlm rfl rfl) ?_ | refine LOps.nil ?_ | refine andThen_normal ?_ | refine andThen_exit ?_ | refine andThen_ret ?_ | refine inBlock_normal ?_ | refine inBlock_ret ?_ | refine inBlock_here ?_ | refine inBlock_out rfl ?_ | refine LWp.seq ?_ | refine LWp.region ?_ | refine LWp.block ?_ | refine LWp.exit ?_ | refine LWp.ret ?_ | refine LWp.skip ?_ | refine LOps.valA ?_ | refine LOps.outA ?_ | refine LOps.whenA ?_ | refine LOps.pickA ?_ | refine LOps.storeA ?_)
    refine LWp.cond rfl (fun h => ?_) (fun h => ?_)
    · have h : ((false || decide (((ks.length : Nat) : Int) > ((k : Nat) : Int))) || decide (((ks.length : Nat) : Int) < ((fewOf k : Nat) : Int))) = true := h
      simp at h; omega
    repeat (first | refine LOps.valH (LVal.callS c3 (by rw [hP]; exact Try.func18) rfl rfl rfl (by decide)) ?_ | refine LOps.valH (look hM hL rfl rfl rfl) ?_ | refine LOps.nil ?_ | refine andThen_normal ?_ | refine andThen_exit ?_ | refine andThen_ret ?_ | refine inBlock_normal ?_ | refine inBlock_ret ?_ | refine inBlock_here ?_ | refine inBlock_out rfl ?_ | refine LWp.seq ?_ | refine LWp.region ?_ | refine LWp.block ?_ | refine LWp.exit ?_ | refine LWp.ret ?_ | refine LWp.skip ?_ | refine LOps.valA ?_ | refine LOps.outA ?_ | refine LOps.whenA ?_ | refine LOps.pickA ?_ | refine LOps.storeA ?_)
    refine LWp.cond rfl (fun h => ?_) (fun h => ?_)
    · exact absurd h (by simp)
    repeat (first | refine LOps.nil ?_ | refine andThen_normal ?_ | refine andThen_exit ?_ | refine andThen_ret ?_ | refine inBlock_normal ?_ | refine inBlock_ret ?_ | refine inBlock_here ?_ | refine inBlock_out rfl ?_ | refine LWp.seq ?_ | refine LWp.region ?_ | refine LWp.block ?_ | refine LWp.exit ?_ | refine LWp.ret ?_ | refine LWp.skip ?_ | refine LOps.valA ?_ | refine LOps.outA ?_ | refine LOps.whenA ?_ | refine LOps.pickA ?_ | refine LOps.storeA ?_)
    exact ⟨l.length - (j + 1), by omega, _, j + 1, F, k, ks, al, by omega, rfl, hO, hM, hL, hF, holds.over ⟨rfl, rfl, rfl, rfl, rfl, trivial⟩⟩
  · repeat (first | refine LOps.nil ?_ | refine andThen_normal ?_ | refine andThen_exit ?_ | refine andThen_ret ?_ | refine inBlock_normal ?_ | refine inBlock_ret ?_ | refine inBlock_here ?_ | refine inBlock_out rfl ?_ | refine LWp.seq ?_ | refine LWp.region ?_ | refine LWp.block ?_ | refine LWp.exit ?_ | refine LWp.ret ?_ | refine LWp.skip ?_ | refine LOps.valA ?_ | refine LOps.outA ?_ | refine LOps.whenA ?_ | refine LOps.pickA ?_ | refine LOps.storeA ?_)
    refine LOps.do (LDo.callF (wakes_L hP _) (by rw [hP]; exact Try.func8)) rfl rfl rfl ?_
    rintro _ S2 ⟨rfl, _⟩
    repeat (first | refine LOps.nil ?_ | refine andThen_normal ?_ | refine andThen_exit ?_ | refine andThen_ret ?_ | refine inBlock_normal ?_ | refine inBlock_ret ?_ | refine inBlock_here ?_ | refine inBlock_out rfl ?_ | refine LWp.seq ?_ | refine LWp.region ?_ | refine LWp.block ?_ | refine LWp.exit ?_ | refine LWp.ret ?_ | refine LWp.skip ?_ | refine LOps.valA ?_ | refine LOps.outA ?_ | refine LOps.whenA ?_ | refine LOps.pickA ?_ | refine LOps.storeA ?_)
    exact ⟨_, LRes.one rfl, rfl⟩
end Go.Proofs.Ytinbibeapooghaa.LF

namespace Go.Proofs.Ytinbibeapooghaa
open Go.RowKit LF
theorem artnodeKinds_walk (W : World) (v0 : Value) (l0 : List LV) (y0 : Typed LF.D 42 l0) (g0 : RepT (G0 Try.prog W) W (allCells W) (argTV ti42 l0) v0) (v1 : Value) (l1 : List LV) (y1 : Typed LF.D 3 l1) (g1 : RepT (G0 Try.prog W) W (allCells W) (argTV ti3 l1) v1) :
    Calls Try.prog 5 #[v0, v1] W fun e W' => e = .returned (.bool true) ∧ Below W.heap.size W W' := by
  obtain ⟨l, rfl, hl⟩ := typed_bytesB y0
  obtain ⟨x, rfl, _⟩ := typed_int rfl rfl y1
  exact law_calls (fun G S h => kinds_L h l hl x S) (.cons (vs := [v1]) g0 (.cons (vs := []) g1 .nil))
end Go.Proofs.Ytinbibeapooghaa
