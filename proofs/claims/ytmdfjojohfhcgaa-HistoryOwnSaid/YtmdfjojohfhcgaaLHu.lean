/- Histories: a nil one; rows that the rules take to the end; what is written over, told further. -/
import Derived.Test.YtmdfjojohfhcgaaLHt
import Derived.Test.YtmdfjojohfhcgaaLHf
set_option linter.unusedVariables false
set_option linter.unusedSimpArgs false
namespace Go.Proofs.Ytmdfjojohfhcgaa.LF
open Go.RowKit
set_option linter.unusedVariables false
attribute [local irreducible] andThen inBlock LWp LOps LCalls

abbrev nilP : TV := .one (.v (.pointer none))
theorem putN_F {G : Ctx} (hP : G.P = Try.prog) (e : Ev) : LFun G 29 [nilP, .agg (evL e)] (.one (iv 2)) := LFun.of fun S => by
  have hD : TabOK G.P D := by rw [hP]; exact hD0
  refine LCalls.enter (fn := Try.f29) (by rw [hP]; exact Try.func29) rfl rfl ?_
  repeat (first | refine LOps.nil ?_ | refine andThen_normal ?_ | refine andThen_exit ?_ | refine andThen_ret ?_ | refine inBlock_normal ?_ | refine inBlock_ret ?_ | refine inBlock_here ?_ | refine inBlock_out rfl ?_ | refine LWp.seq ?_ | refine LWp.region ?_ | refine LWp.block ?_ | refine LWp.exit ?_ | refine LWp.ret ?_ | refine LWp.skip ?_ | refine LOps.valA ?_ | refine LOps.outA ?_ | refine LOps.whenA ?_ | refine LOps.pickA ?_ | refine LOps.storeA ?_)
  refine LOps.do (LDo.box rfl rfl) rfl rfl rfl ?_
  rintro _ _ ⟨b3, hb3, rfl, rfl⟩
  repeat (first | refine LWp.condT rfl ?_ | refine LOps.nil ?_ | refine andThen_normal ?_ | refine andThen_exit ?_ | refine andThen_ret ?_ | refine inBlock_normal ?_ | refine inBlock_ret ?_ | refine inBlock_here ?_ | refine inBlock_out rfl ?_ | refine LWp.seq ?_ | refine LWp.region ?_ | refine LWp.block ?_ | refine LWp.exit ?_ | refine LWp.ret ?_ | refine LWp.skip ?_ | refine LOps.valA ?_ | refine LOps.outA ?_ | refine LOps.whenA ?_ | refine LOps.pickA ?_ | refine LOps.storeA ?_)
  exact ⟨_, LRes.one rfl, rfl, .newBox (.refl _) hb3 _⟩
theorem beginN_F {G : Ctx} (hP : G.P = Try.prog) (id : Int) (x : OpV) : LFun G 11 [nilP, .one (iv id), .agg (opL x)] (.one (iv 2)) := LFun.of fun S => by
  have hD : TabOK G.P D := by rw [hP]; exact hD0
  refine LCalls.enter (fn := Try.f11) (by rw [hP]; exact Try.func11) rfl rfl ?_
  repeat (first | refine LOps.nil ?_ | refine andThen_normal ?_ | refine andThen_exit ?_ | refine andThen_ret ?_ | refine inBlock_normal ?_ | refine inBlock_ret ?_ | refine inBlock_here ?_ | refine inBlock_out rfl ?_ | refine LWp.seq ?_ | refine LWp.region ?_ | refine LWp.block ?_ | refine LWp.exit ?_ | refine LWp.ret ?_ | refine LWp.skip ?_ | refine LOps.valA ?_ | refine LOps.outA ?_ | refine LOps.whenA ?_ | refine LOps.pickA ?_ | refine LOps.storeA ?_)
  refine LOps.do (LDo.box rfl rfl) rfl rfl rfl ?_
  rintro _ _ ⟨b3, hb3, rfl, rfl⟩
  repeat (first | refine LOps.val (r := .agg (evL ⟨1, id, x, noAns⟩)) (LVal.shTo (LVal.build hD rfl rfl rfl rfl rfl rfl rfl) rfl) rfl rfl rfl ?_ | refine LOps.nil ?_ | refine andThen_normal ?_ | refine andThen_exit ?_ | refine andThen_ret ?_ | refine inBlock_normal ?_ | refine inBlock_ret ?_ | refine inBlock_here ?_ | refine inBlock_out rfl ?_ | refine LWp.seq ?_ | refine LWp.region ?_ | refine LWp.block ?_ | refine LWp.exit ?_ | refine LWp.ret ?_ | refine LWp.skip ?_ | refine LOps.val (LVal.call rfl rfl (by rw [hP]; exact Try.func29) rfl (by decide) (putN_F hP ⟨1, id, x, noAns⟩)) rfl rfl rfl ?_ | refine LOps.whenC (LVal.call rfl rfl (by rw [hP]; exact Try.func29) rfl (by decide) (putN_F hP ⟨1, id, x, noAns⟩)) ?_ | refine LOps.valA ?_ | refine LOps.outA ?_ | refine LOps.whenA ?_ | refine LOps.pickA ?_ | refine LOps.storeA ?_)
  exact ⟨_, LRes.one rfl, rfl, .newBox (.refl _) hb3 _⟩
theorem markN_F {G : Ctx} (hP : G.P = Try.prog) (id : Int) (a : Ans) : LFun G 12 [nilP, .one (iv id), .agg (ansL a)] (.one (iv 2)) := LFun.of fun S => by
  have hD : TabOK G.P D := by rw [hP]; exact hD0
  refine LCalls.enter (fn := Try.f12) (by rw [hP]; exact Try.func12) rfl rfl ?_
  repeat (first | refine LOps.nil ?_ | refine andThen_normal ?_ | refine andThen_exit ?_ | refine andThen_ret ?_ | refine inBlock_normal ?_ | refine inBlock_ret ?_ | refine inBlock_here ?_ | refine inBlock_out rfl ?_ | refine LWp.seq ?_ | refine LWp.region ?_ | refine LWp.block ?_ | refine LWp.exit ?_ | refine LWp.ret ?_ | refine LWp.skip ?_ | refine LOps.valA ?_ | refine LOps.outA ?_ | refine LOps.whenA ?_ | refine LOps.pickA ?_ | refine LOps.storeA ?_)
  refine LOps.do (LDo.box rfl rfl) rfl rfl rfl ?_
  rintro _ _ ⟨b3, hb3, rfl, rfl⟩
  repeat (first | refine LOps.val (r := .agg (evL ⟨2, id, noOp, a⟩)) (LVal.shTo (LVal.build hD rfl rfl rfl rfl rfl rfl rfl) rfl) rfl rfl rfl ?_ | refine LOps.nil ?_ | refine andThen_normal ?_ | refine andThen_exit ?_ | refine andThen_ret ?_ | refine inBlock_normal ?_ | refine inBlock_ret ?_ | refine inBlock_here ?_ | refine inBlock_out rfl ?_ | refine LWp.seq ?_ | refine LWp.region ?_ | refine LWp.block ?_ | refine LWp.exit ?_ | refine LWp.ret ?_ | refine LWp.skip ?_ | refine LOps.val (LVal.call rfl rfl (by rw [hP]; exact Try.func29) rfl (by decide) (putN_F hP ⟨2, id, noOp, a⟩)) rfl rfl rfl ?_ | refine LOps.whenC (LVal.call rfl rfl (by rw [hP]; exact Try.func29) rfl (by decide) (putN_F hP ⟨2, id, noOp, a⟩)) ?_ | refine LOps.valA ?_ | refine LOps.outA ?_ | refine LOps.whenA ?_ | refine LOps.pickA ?_ | refine LOps.storeA ?_)
  exact ⟨_, LRes.one rfl, rfl, .newBox (.refl _) hb3 _⟩
theorem endN_F {G : Ctx} (hP : G.P = Try.prog) (id : Int) : LFun G 13 [nilP, .one (iv id)] (.one (iv 2)) := LFun.of fun S => by
  have hD : TabOK G.P D := by rw [hP]; exact hD0
  refine LCalls.enter (fn := Try.f13) (by rw [hP]; exact Try.func13) rfl rfl ?_
  repeat (first | refine LWp.condT rfl ?_ | refine LOps.nil ?_ | refine andThen_normal ?_ | refine andThen_exit ?_ | refine andThen_ret ?_ | refine inBlock_normal ?_ | refine inBlock_ret ?_ | refine inBlock_here ?_ | refine inBlock_out rfl ?_ | refine LWp.seq ?_ | refine LWp.region ?_ | refine LWp.block ?_ | refine LWp.exit ?_ | refine LWp.ret ?_ | refine LWp.skip ?_ | refine LOps.valA ?_ | refine LOps.outA ?_ | refine LOps.whenA ?_ | refine LOps.pickA ?_ | refine LOps.storeA ?_)
  exact ⟨_, LRes.one rfl, rfl, .refl _⟩
theorem eventsN_F {G : Ctx} (hP : G.P = Try.prog) : LFun G 17 [nilP] (.one (.sl .nil [])) := LFun.of fun S => by
  have hD : TabOK G.P D := by rw [hP]; exact hD0
  refine LCalls.enter (fn := Try.f17) (by rw [hP]; exact Try.func17) rfl rfl ?_
  repeat (first | refine LWp.condT rfl ?_ | refine LOps.nil ?_ | refine andThen_normal ?_ | refine andThen_exit ?_ | refine andThen_ret ?_ | refine inBlock_normal ?_ | refine inBlock_ret ?_ | refine inBlock_here ?_ | refine inBlock_out rfl ?_ | refine LWp.seq ?_ | refine LWp.region ?_ | refine LWp.block ?_ | refine LWp.exit ?_ | refine LWp.ret ?_ | refine LWp.skip ?_ | refine LOps.valA ?_ | refine LOps.outA ?_ | refine LOps.whenA ?_ | refine LOps.pickA ?_ | refine LOps.storeA ?_)
  exact ⟨_, LRes.one rfl, rfl, .refl _⟩

/-- What is known behind a row that the rules take. -/
def runS (f : Int → Kn) : List Ev → Option (Int → Kn)
  | [] => some f
  | e :: l => match takesS (f e.id) e with
    | none => none
    | some k => runS (put1 f e.id k) l
theorem runS_check : ∀ (l : List Ev) (f g : Int → Kn) (i : Nat), runS f l = some g → checkS f l i = (-1, 0)
  | [], f, g, i, h => rfl
  | e :: l, f, g, i, h => by
    unfold runS at h
    unfold checkS
    cases hk : takesS (f e.id) e with
    | none => rw [hk] at h; cases h
    | some k => rw [hk] at h; exact runS_check l _ g _ h
theorem runS_snoc : ∀ (l : List Ev) (f g : Int → Kn) (e : Ev) (k : Kn), runS f l = some g → takesS (g e.id) e = some k → runS f (l ++ [e]) = some (put1 g e.id k)
  | [], f, g, e, k, h, hk => by
    obtain rfl : f = g := by simpa [runS] using h
    simp [runS, hk]
  | x :: l, f, g, e, k, h, hk => by
    unfold runS at h
    simp only [List.cons_append]
    unfold runS
    cases hx : takesS (f x.id) x with
    | none => rw [hx] at h; cases h
    | some q => rw [hx] at h; exact runS_snoc l _ g e k h hk

/-- A history under way. -/
structure OwB (S S' : LS) (F : Nat → Prop) (b : Nat) (w : List Ev) (f : Int → Kn) (m : Nat) : Prop where
  le : S.le S'
  new : ∀ x, F x → S.top ≤ x
  hist : Hist S' F b w f
  run : runS (fun _ => noKn) w = some f
  len : w.length ≤ m
  ws : ∀ e ∈ w, e.op.writes.length ≤ 20
theorem OwB.more {S S' : LS} {F : Nat → Prop} {b : Nat} {w : List Ev} {f : Int → Kn} {m m' : Nat} (h : OwB S S' F b w f m) (hm : m ≤ m') : OwB S S' F b w f m' := ⟨h.le, h.new, h.hist, h.run, Nat.le_trans h.len hm, h.ws⟩
theorem OwB.put {S S' S2 : LS} {F : Nat → Prop} {b : Nat} {w : List Ev} {f : Int → Kn} {m : Nat} {e : Ev} {r : TV} (h : OwB S S' F b w f m) (hw : S.wf) (he : e.op.writes.length ≤ 20) (hp : PutPost S' F b w f e r S2) : ∃ F w f, OwB S S2 F b w f (m + 1) := by
  cases hk : takesS (f e.id) e with
  | none =>
    obtain ⟨_, o2, H2⟩ := hp.none hk
    exact ⟨_, w, f, h.le.newOnly o2 h.new hw, grow_new h.new h.le.top, H2, h.run, Nat.le_trans h.len (Nat.le_succ m), h.ws⟩
  | some k =>
    obtain ⟨_, o2, H2⟩ := hp.some hk
    refine ⟨_, _, _, h.le.newOnly o2 h.new hw, grow_new h.new h.le.top, H2, runS_snoc _ _ _ _ _ h.run hk, by simp; exact h.len, fun x hx => ?_⟩
    rcases List.mem_append.1 hx with hx | hx
    · exact h.ws x hx
    · obtain rfl := List.mem_singleton.1 hx
      exact he

theorem NewWs.le {S0 S S' : LS} {r : Nat} {Y : LV} (h : NewWs S0 r S Y) (k : S.le S') : NewWs S0 r S' Y := h.keep fun q cs _ hc => ⟨cs, k.box q cs hc, rfl⟩
theorem NewEv.le {S0 S S' : LS} {X : LV} {n : Nat} (h : NewEv S0 S X n) (k : S.le S') : NewEv S0 S' X n := by
  rcases h with h | ⟨r, off, c, cs, h1, h2, h3, h4, h5⟩
  · exact .inl h
  · refine .inr ⟨r, off, c, cs, h1, k.box _ _ h2, h3, h4, fun i hi => ?_⟩
    obtain ⟨Y, e, w⟩ := h5 i hi
    exact ⟨Y, e, w.le k⟩
theorem NewEv.row {S0 S : LS} {r off n c : Nat} {cs : List LV} (h : NewEv S0 S (rsl r off n c) n) (hb : S.box r = some cs) : S0.box r = none ∧ off + n * 13 ≤ cs.length ∧ ∀ i, i < n → ∃ Y, cs[off + i * 13 + 8]? = some Y ∧ NewWs S0 r S Y := by
  rcases h with ⟨h, _⟩ | ⟨r', off', c', cs', h1, h2, h3, h4, h5⟩
  · cases h
  · obtain ⟨rfl, rfl, _, rfl⟩ := rsl_inj h1
    rw [hb] at h2
    cases h2
    exact ⟨h3, h4, h5⟩
theorem LVal.lenNewEv {G : Ctx} {D : Tab} (hD : TabOK G.P D) {o : Oper} {T : Nat → TV} {S S0 S2 : LS} {t e : TypeId} {x : Operand} {i : TI} {X : LV} {n : Nat} (h : NewEv S0 S X n) (ho : o.op = .call { callee := .builtin .len, args := #[x], argTypes := #[t] })
    (hx : lev T x = .one X) (hi : D.get t = some i) (hd : i.desc = .slice e) : LVal G o T S2 (.one (iv (n : Nat))) := by
  rcases h with ⟨rfl, rfl⟩ | ⟨r, off, c, cs, rfl, _⟩
  · exact LVal.len hD ho hx hi hd
  · exact LVal.lenR hD ho hx hi hd
def lenW : LV → Nat
  | .v (.slice _ n _) => n
  | _ => 0
theorem LVal.lenNewWs {G : Ctx} {D : Tab} (hD : TabOK G.P D) {o : Oper} {T : Nat → TV} {S S0 S2 : LS} {r : Nat} {t e : TypeId} {x : Operand} {i : TI} {Y : LV} (h : NewWs S0 r S Y) (ho : o.op = .call { callee := .builtin .len, args := #[x], argTypes := #[t] })
    (hx : lev T x = .one Y) (hi : D.get t = some i) (hd : i.desc = .slice e) : LVal G o T S2 (.one (iv (lenW Y : Nat))) := by
  rcases h with rfl | ⟨q, m, c, ws, rfl, _⟩
  · exact LVal.len hD ho hx hi hd
  · exact LVal.lenR hD ho hx hi hd
theorem rd_ws {cs : List LV} {p : Nat} {Y : LV} (h : cs[p]? = some Y) : readT ti27 (cs.drop p) = some (.one Y) := by
  have hlt : p < cs.length := (List.getElem?_eq_some_iff.1 h).1
  rw [List.drop_eq_getElem_cons hlt]
  have : cs[p] = Y := (List.getElem?_eq_some_iff.1 h).2
  rw [this]; rfl
end Go.Proofs.Ytmdfjojohfhcgaa.LF
