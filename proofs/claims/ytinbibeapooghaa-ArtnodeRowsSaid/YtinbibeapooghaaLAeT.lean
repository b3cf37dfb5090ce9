/- The shapes as one, behind their interface; the node: none, Get, From, Len, Kind, of children of type string. (Printed by gen_art.py.) -/
import Derived.Test.YtinbibeapooghaaLAdT
set_option linter.unusedVariables false
set_option linter.unusedSimpArgs false
namespace Go.Proofs.Ytinbibeapooghaa.LF
open Go.RowKit
set_option linter.unusedVariables false
attribute [local irreducible] andThen inBlock LWp LOps LCalls

abbrev tSoT : TypeId := 69
abbrev tIxT : TypeId := 78
abbrev tDrT : TypeId := 79
theorem ldT_so_get : Leads Try.prog tSoT "marshalling/artnode.get" 83 := fun v args w => by kernel_rfl
theorem ldT_so_set : Leads Try.prog tSoT "marshalling/artnode.set" 84 := fun v args w => by kernel_rfl
theorem ldT_so_drop : Leads Try.prog tSoT "marshalling/artnode.drop" 81 := fun v args w => by kernel_rfl
theorem ldT_so_from : Leads Try.prog tSoT "marshalling/artnode.from" 82 := fun v args w => by kernel_rfl
theorem ldT_ix_get : Leads Try.prog tIxT "marshalling/artnode.get" 93 := fun v args w => by kernel_rfl
theorem ldT_ix_set : Leads Try.prog tIxT "marshalling/artnode.set" 94 := fun v args w => by kernel_rfl
theorem ldT_ix_drop : Leads Try.prog tIxT "marshalling/artnode.drop" 91 := fun v args w => by kernel_rfl
theorem ldT_ix_from : Leads Try.prog tIxT "marshalling/artnode.from" 92 := fun v args w => by kernel_rfl
theorem ldT_dr_get : Leads Try.prog tDrT "marshalling/artnode.get" 97 := fun v args w => by kernel_rfl
theorem ldT_dr_set : Leads Try.prog tDrT "marshalling/artnode.set" 98 := fun v args w => by kernel_rfl
theorem ldT_dr_drop : Leads Try.prog tDrT "marshalling/artnode.drop" 95 := fun v args w => by kernel_rfl
theorem ldT_dr_from : Leads Try.prog tDrT "marshalling/artnode.from" 96 := fun v args w => by kernel_rfl

/-- A shape: its blocks, the interface value, the kind, the children. -/
inductive ShT (S : LS) : (Nat → Prop) → LV → Nat → Kv ByteArray → Prop
  | so (bs : Nat) (A B : LV) (k : Nat) (l : Kv ByteArray) (hk : k = 4 ∨ k = 16) (h : SoT S bs A B l) : ShT S (FSb bs A B) (ifc tSoT bs) k l
  | ix (bs : Nat) (l : Kv ByteArray) (h : IxT S bs l) : ShT S (fun c => c = bs) (ifc tIxT bs) 48 l
  | dr (bs : Nat) (l : Kv ByteArray) (h : DrT S bs l) : ShT S (fun c => c = bs) (ifc tDrT bs) 256 l
section
variable {S S' : LS} {F : Nat → Prop} {X : LV} {k : Nat} {l : Kv ByteArray}
theorem ShT.ks (h : ShT S F X k l) : KS l := by
  cases h with
  | so bs A B _ _ hk h => exact h.ks
  | ix bs _ h => obtain ⟨_, _, _, _, h⟩ := h; exact h.ks
  | dr bs _ h => obtain ⟨_, _, _, h⟩ := h; exact h.ks
theorem ShT.block (h : ShT S F X k l) {c : Nat} (hc : F c) : ∃ cs, S.box c = some cs := by
  cases h with
  | so bs A B _ _ hk h =>
    rcases hc with rfl | hc | hc
    · exact ⟨_, h.box⟩
    · exact h.ka.block c hc
    · exact h.kb.block c hc
  | ix bs _ h => obtain ⟨_, _, _, hb, _⟩ := h; exact ⟨_, (show c = bs from hc) ▸ hb⟩
  | dr bs _ h => obtain ⟨_, _, hb, _⟩ := h; exact ⟨_, (show c = bs from hc) ▸ hb⟩
theorem ShT.keep (h : ShT S F X k l) (hk : ∀ c cs, F c → S.box c = some cs → S'.box c = some cs) : ShT S' F X k l := by
  cases h with
  | so bs A B _ _ h1 h => exact .so bs A B _ _ h1 (h.off hk)
  | ix bs _ h => obtain ⟨_, _, _, hb, h⟩ := h; exact .ix bs _ ⟨_, _, _, hk _ _ rfl hb, h⟩
  | dr bs _ h => obtain ⟨_, _, hb, h⟩ := h; exact .dr bs _ ⟨_, _, hk _ _ rfl hb, h⟩
theorem ShT.iface (h : ShT S F X k l) : ∃ t b, X = ifc t b := by
  cases h with
  | so bs A B _ _ h1 h => exact ⟨_, _, rfl⟩
  | ix bs _ h => exact ⟨_, _, rfl⟩
  | dr bs _ h => exact ⟨_, _, rfl⟩

section
variable {G : Ctx} {o : Oper} {T : Nat → TV} {rv x y : Operand} {ts : Array TypeId} {b : Nat}
theorem ShT.get (h : ShT S F X k l) (hP : G.P = Try.prog) (hb : b < 256) (ho : o.op = .call { callee := .invoke rv "marshalling/artnode.get", args := #[x], argTypes := ts }) (hv : lev T rv = .one X) (hx : shTV (lev T x) = .one (uv (b : Nat))) :
    LDo G o T S (fun r S' => r = getT l b ∧ S' = S) := by
  cases h with
  | so bs A B _ _ h1 h => exact LDo.invoke (xs := [x]) (soT_get hP h b) (hP ▸ ldT_so_get) ho hv (congrArg (fun z => [z]) hx)
  | ix bs _ h => exact LDo.invoke (xs := [x]) (ixT_get hP h hb) (hP ▸ ldT_ix_get) ho hv (congrArg (fun z => [z]) hx)
  | dr bs _ h => exact LDo.invoke (xs := [x]) (drT_get hP h hb) (hP ▸ ldT_dr_get) ho hv (congrArg (fun z => [z]) hx)
theorem ShT.from {n : Int} (h : ShT S F X k l) (hP : G.P = Try.prog) (ho : o.op = .call { callee := .invoke rv "marshalling/artnode.from", args := #[x], argTypes := ts }) (hv : lev T rv = .one X) (hx : shTV (lev T x) = .one (iv n)) :
    LDo G o T S (fun r S' => r = fromT (fromL l n) ∧ S' = S) := by
  cases h with
  | so bs A B _ _ h1 h => exact LDo.invoke (xs := [x]) (soT_from hP h n) (hP ▸ ldT_so_from) ho hv (congrArg (fun z => [z]) hx)
  | ix bs _ h => exact LDo.invoke (xs := [x]) (ixT_from hP h n) (hP ▸ ldT_ix_from) ho hv (congrArg (fun z => [z]) hx)
  | dr bs _ h => exact LDo.invoke (xs := [x]) (drT_from hP h n) (hP ▸ ldT_dr_from) ho hv (congrArg (fun z => [z]) hx)
theorem ShT.set {z : ByteArray} (h : ShT S F X k l) (hP : G.P = Try.prog) (hb : b < 256) (hroom : hasK l b = false → l.length < k) (ho : o.op = .call { callee := .invoke rv "marshalling/artnode.set", args := #[x, y], argTypes := ts }) (hv : lev T rv = .one X) (hx : shTV (lev T x) = .one (uv (b : Nat))) (hy : shTV (lev T y) = .one (sv z)) :
    LDo G o T S (fun r S' => ∃ F', ShT S' F' X k (setL l b z) ∧ MvF S F S' F') := by
  have hxy : [x, y].map (fun x => shTV (lev T x)) = [.one (uv (b : Nat)), .one (sv z)] := by rw [← hx, ← hy]; rfl
  cases h with
  | so bs A B _ _ h1 h => exact (LDo.invoke (xs := [x, y]) (soT_set hP h hb z) (hP ▸ ldT_so_set) ho hv hxy).mono' fun r S' ⟨A', B', h2, h3⟩ => ⟨_, .so bs A' B' _ _ h1 h2, h3⟩
  | ix bs _ h => exact (LDo.invoke (xs := [x, y]) (ixT_set hP h hb z hroom) (hP ▸ ldT_ix_set) ho hv hxy).mono' fun r S' ⟨h2, h3⟩ => ⟨_, .ix bs _ h2, h3⟩
  | dr bs _ h => exact (LDo.invoke (xs := [x, y]) (drT_set hP h hb z) (hP ▸ ldT_dr_set) ho hv hxy).mono' fun r S' ⟨h2, h3⟩ => ⟨_, .dr bs _ h2, h3⟩
theorem ShT.drop (h : ShT S F X k l) (hP : G.P = Try.prog) (hb : b < 256) (hk : hasK l b = true) (ho : o.op = .call { callee := .invoke rv "marshalling/artnode.drop", args := #[x], argTypes := ts }) (hv : lev T rv = .one X) (hx : shTV (lev T x) = .one (uv (b : Nat))) :
    LDo G o T S (fun r S' => ∃ F', ShT S' F' X k (delL l b) ∧ MvF S F S' F') := by
  cases h with
  | so bs A B _ _ h1 h => exact (LDo.invoke (xs := [x]) (soT_drop hP h b hk) (hP ▸ ldT_so_drop) ho hv (congrArg (fun z => [z]) hx)).mono' fun r S' ⟨A', B', h2, h3⟩ => ⟨_, .so bs A' B' _ _ h1 h2, h3⟩
  | ix bs _ h => exact (LDo.invoke (xs := [x]) (ixT_drop hP h hb hk) (hP ▸ ldT_ix_drop) ho hv (congrArg (fun z => [z]) hx)).mono' fun r S' ⟨h2, h3⟩ => ⟨_, .ix bs _ h2, h3⟩
  | dr bs _ h => exact (LDo.invoke (xs := [x]) (drT_drop hP h hb) (hP ▸ ldT_dr_drop) ho hv (congrArg (fun z => [z]) hx)).mono' fun r S' ⟨h2, h3⟩ => ⟨_, .dr bs _ h2, h3⟩
end
end

/-- A node: its blocks, where it is, its kind and children. -/
structure NodeT (S : LS) (F : Nat → Prop) (b k : Nat) (l : Kv ByteArray) : Prop where
  ex : ∃ X Fs, S.box b = some [X, iv (k : Nat), iv (l.length : Nat)] ∧ ShT S Fs X k l ∧ ¬ Fs b ∧ ∀ c, F c ↔ c = b ∨ Fs c
  ok : NodeOK k l
theorem NodeT.block {S : LS} {F : Nat → Prop} {b k : Nat} {l : Kv ByteArray} (h : NodeT S F b k l) {c : Nat} (hc : F c) : ∃ cs, S.box c = some cs := by
  obtain ⟨X, Fs, h1, h2, _, h4⟩ := h.ex
  rcases (h4 c).1 hc with rfl | hc
  · exact ⟨_, h1⟩
  · exact h2.block hc
theorem NodeT.keep {S S' : LS} {F : Nat → Prop} {b k : Nat} {l : Kv ByteArray} (h : NodeT S F b k l) (hk : ∀ c cs, F c → S.box c = some cs → S'.box c = some cs) : NodeT S' F b k l := by
  obtain ⟨X, Fs, h1, h2, h3, h4⟩ := h.ex
  exact ⟨⟨X, Fs, hk _ _ ((h4 b).2 (.inl rfl)) h1, h2.keep fun c cs hc => hk c cs ((h4 c).2 (.inr hc)), h3, h4⟩, h.ok⟩
theorem NodeT.le {S S' : LS} {F : Nat → Prop} {b k : Nat} {l : Kv ByteArray} (h : NodeT S F b k l) (hk : S.le S') : NodeT S' F b k l := h.keep fun c cs _ hc => hk.box c cs hc
theorem NodeT.fresh {S : LS} {F : Nat → Prop} {b k : Nat} {l : Kv ByteArray} (h : NodeT S F b k l) {c : Nat} (hc : S.box c = none) : ¬ F c := fun e => by
  obtain ⟨cs, hcs⟩ := h.block e
  rw [hc] at hcs; cases hcs

theorem ifmT {G : Ctx} (hP : G.P = Try.prog) : G.P.underlying 74 = some (.interface (G.P.methodsAt 74)) := by rw [hP]; kernel_rfl

theorem noneT_L {G : Ctx} (hP : G.P = Try.prog) {S : LS} {b t c : Nat} {Y Z : LV} (hb : S.box b = some [ifc t c, Y, Z]) : LCalls G 33 [ptr b] (fun r S' => r = .one (bv false) ∧ S' = S) S := by
  have hD : TabOK G.P D := by rw [hP]; exact hD0
  have hm := ifmT hP
  refine LCalls.enter (fn := Try.f33) (by rw [hP]; exact Try.func33) rfl rfl ?_
  repeat (first | refine LOps.whenC (LVal.eqNilIf hm rfl rfl) ?_ | refine LOps.nil ?_ | refine andThen_normal ?_ | refine andThen_exit ?_ | refine andThen_ret ?_ | refine inBlock_normal ?_ | refine inBlock_ret ?_ | refine inBlock_here ?_ | refine inBlock_out rfl ?_ | refine LWp.seq ?_ | refine LWp.region ?_ | refine LWp.block ?_ | refine LWp.exit ?_ | refine LWp.ret ?_ | refine LWp.skip ?_ | refine LOps.valA ?_ | refine LOps.outA ?_ | refine LOps.whenA ?_ | refine LOps.pickA ?_ | refine LOps.storeA ?_)
  exact ⟨_, LRes.one rfl, rfl, rfl⟩
theorem noneNT_F {G : Ctx} (hP : G.P = Try.prog) : LFun G 33 [.one (.v (.pointer none))] (.one (bv true)) := LFun.of fun S => by
  have hD : TabOK G.P D := by rw [hP]; exact hD0
  refine LCalls.enter (fn := Try.f33) (by rw [hP]; exact Try.func33) rfl rfl ?_
  repeat (first | refine LOps.nil ?_ | refine andThen_normal ?_ | refine andThen_exit ?_ | refine andThen_ret ?_ | refine inBlock_normal ?_ | refine inBlock_ret ?_ | refine inBlock_here ?_ | refine inBlock_out rfl ?_ | refine LWp.seq ?_ | refine LWp.region ?_ | refine LWp.block ?_ | refine LWp.exit ?_ | refine LWp.ret ?_ | refine LWp.skip ?_ | refine LOps.valA ?_ | refine LOps.outA ?_ | refine LOps.whenA ?_ | refine LOps.pickA ?_ | refine LOps.storeA ?_)
  exact ⟨_, LRes.one rfl, rfl, .refl _⟩

section
variable {G : Ctx} {S : LS} {F : Nat → Prop} {b k : Nat} {l : Kv ByteArray}
theorem nodeT_get (hP : G.P = Try.prog) (h : NodeT S F b k l) {c : Nat} (hc : c < 256) : LCalls G 26 [ptr b, .one (uv (c : Nat))] (fun r S' => r = getT l c ∧ S' = S) S := by
  have hD : TabOK G.P D := by rw [hP]; exact hD0
  obtain ⟨X, Fs, hb, hs, _, _⟩ := h.ex
  obtain ⟨t, bs, rfl⟩ := hs.iface
  refine LCalls.enter (fn := Try.f26) (by rw [hP]; exact Try.func26) rfl rfl ?_
  repeat (first | refine LOps.nil ?_ | refine andThen_normal ?_ | refine andThen_exit ?_ | refine andThen_ret ?_ | refine inBlock_normal ?_ | refine inBlock_ret ?_ | refine inBlock_here ?_ | refine inBlock_out rfl ?_ | refine LWp.seq ?_ | refine LWp.region ?_ | refine LWp.block ?_ | refine LWp.exit ?_ | refine LWp.ret ?_ | refine LWp.skip ?_ | refine LOps.valA ?_ | refine LOps.outA ?_ | refine LOps.whenA ?_ | refine LOps.pickA ?_ | refine LOps.storeA ?_)
  refine LOps.do (LDo.callF (noneT_L hP hb) (by rw [hP]; exact Try.func33)) rfl rfl rfl ?_
  rintro _ _ ⟨rfl, rfl⟩
  repeat (first | refine LWp.condF rfl ?_ | refine LOps.nil ?_ | refine andThen_normal ?_ | refine andThen_exit ?_ | refine andThen_ret ?_ | refine inBlock_normal ?_ | refine inBlock_ret ?_ | refine inBlock_here ?_ | refine inBlock_out rfl ?_ | refine LWp.seq ?_ | refine LWp.region ?_ | refine LWp.block ?_ | refine LWp.exit ?_ | refine LWp.ret ?_ | refine LWp.skip ?_ | refine LOps.valA ?_ | refine LOps.outA ?_ | refine LOps.whenA ?_ | refine LOps.pickA ?_ | refine LOps.storeA ?_)
  refine LOps.do (hs.get hP hc rfl rfl rfl) rfl rfl rfl ?_
  rintro _ _ ⟨rfl, rfl⟩
  repeat (first | refine LOps.nil ?_ | refine andThen_normal ?_ | refine andThen_exit ?_ | refine andThen_ret ?_ | refine inBlock_normal ?_ | refine inBlock_ret ?_ | refine inBlock_here ?_ | refine inBlock_out rfl ?_ | refine LWp.seq ?_ | refine LWp.region ?_ | refine LWp.block ?_ | refine LWp.exit ?_ | refine LWp.ret ?_ | refine LWp.skip ?_ | refine LOps.valA ?_ | refine LOps.outA ?_ | refine LOps.whenA ?_ | refine LOps.pickA ?_ | refine LOps.storeA ?_)
  exact ⟨_, LRes.two rfl, rfl, rfl⟩
theorem nodeT_from (hP : G.P = Try.prog) (h : NodeT S F b k l) (n : Int) : LCalls G 27 [ptr b, .one (iv n)] (fun r S' => r = fromT (fromL l n) ∧ S' = S) S := by
  have hD : TabOK G.P D := by rw [hP]; exact hD0
  obtain ⟨X, Fs, hb, hs, _, _⟩ := h.ex
  obtain ⟨t, bs, rfl⟩ := hs.iface
  refine LCalls.enter (fn := Try.f27) (by rw [hP]; exact Try.func27) rfl rfl ?_
  repeat (first | refine LOps.nil ?_ | refine andThen_normal ?_ | refine andThen_exit ?_ | refine andThen_ret ?_ | refine inBlock_normal ?_ | refine inBlock_ret ?_ | refine inBlock_here ?_ | refine inBlock_out rfl ?_ | refine LWp.seq ?_ | refine LWp.region ?_ | refine LWp.block ?_ | refine LWp.exit ?_ | refine LWp.ret ?_ | refine LWp.skip ?_ | refine LOps.valA ?_ | refine LOps.outA ?_ | refine LOps.whenA ?_ | refine LOps.pickA ?_ | refine LOps.storeA ?_)
  refine LOps.do (LDo.callF (noneT_L hP hb) (by rw [hP]; exact Try.func33)) rfl rfl rfl ?_
  rintro _ _ ⟨rfl, rfl⟩
  repeat (first | refine LWp.condF rfl ?_ | refine LOps.nil ?_ | refine andThen_normal ?_ | refine andThen_exit ?_ | refine andThen_ret ?_ | refine inBlock_normal ?_ | refine inBlock_ret ?_ | refine inBlock_here ?_ | refine inBlock_out rfl ?_ | refine LWp.seq ?_ | refine LWp.region ?_ | refine LWp.block ?_ | refine LWp.exit ?_ | refine LWp.ret ?_ | refine LWp.skip ?_ | refine LOps.valA ?_ | refine LOps.outA ?_ | refine LOps.whenA ?_ | refine LOps.pickA ?_ | refine LOps.storeA ?_)
  refine LOps.do (hs.from hP rfl rfl rfl) rfl rfl rfl ?_
  rintro _ _ ⟨rfl, rfl⟩
  cases hq : fromL l n with
  | none =>
    repeat (first | refine LOps.nil ?_ | refine andThen_normal ?_ | refine andThen_exit ?_ | refine andThen_ret ?_ | refine inBlock_normal ?_ | refine inBlock_ret ?_ | refine inBlock_here ?_ | refine inBlock_out rfl ?_ | refine LWp.seq ?_ | refine LWp.region ?_ | refine LWp.block ?_ | refine LWp.exit ?_ | refine LWp.ret ?_ | refine LWp.skip ?_ | refine LOps.valA ?_ | refine LOps.outA ?_ | refine LOps.whenA ?_ | refine LOps.pickA ?_ | refine LOps.storeA ?_)
    exact ⟨_, LRes.three rfl, rfl, rfl⟩
  | some p =>
    repeat (first | refine LOps.nil ?_ | refine andThen_normal ?_ | refine andThen_exit ?_ | refine andThen_ret ?_ | refine inBlock_normal ?_ | refine inBlock_ret ?_ | refine inBlock_here ?_ | refine inBlock_out rfl ?_ | refine LWp.seq ?_ | refine LWp.region ?_ | refine LWp.block ?_ | refine LWp.exit ?_ | refine LWp.ret ?_ | refine LWp.skip ?_ | refine LOps.valA ?_ | refine LOps.outA ?_ | refine LOps.whenA ?_ | refine LOps.pickA ?_ | refine LOps.storeA ?_)
    exact ⟨_, LRes.three rfl, rfl, rfl⟩
theorem nodeT_len (hP : G.P = Try.prog) (h : NodeT S F b k l) : LCalls G 25 [ptr b] (fun r S' => r = .one (iv (l.length : Nat)) ∧ S' = S) S := by
  have hD : TabOK G.P D := by rw [hP]; exact hD0
  obtain ⟨X, Fs, hb, hs, _, _⟩ := h.ex
  obtain ⟨t, bs, rfl⟩ := hs.iface
  refine LCalls.enter (fn := Try.f25) (by rw [hP]; exact Try.func25) rfl rfl ?_
  repeat (first | refine LOps.nil ?_ | refine andThen_normal ?_ | refine andThen_exit ?_ | refine andThen_ret ?_ | refine inBlock_normal ?_ | refine inBlock_ret ?_ | refine inBlock_here ?_ | refine inBlock_out rfl ?_ | refine LWp.seq ?_ | refine LWp.region ?_ | refine LWp.block ?_ | refine LWp.exit ?_ | refine LWp.ret ?_ | refine LWp.skip ?_ | refine LOps.valA ?_ | refine LOps.outA ?_ | refine LOps.whenA ?_ | refine LOps.pickA ?_ | refine LOps.storeA ?_)
  refine LOps.do (LDo.callF (noneT_L hP hb) (by rw [hP]; exact Try.func33)) rfl rfl rfl ?_
  rintro _ _ ⟨rfl, rfl⟩
  repeat (first | refine LWp.condF rfl ?_ | refine LOps.nil ?_ | refine andThen_normal ?_ | refine andThen_exit ?_ | refine andThen_ret ?_ | refine inBlock_normal ?_ | refine inBlock_ret ?_ | refine inBlock_here ?_ | refine inBlock_out rfl ?_ | refine LWp.seq ?_ | refine LWp.region ?_ | refine LWp.block ?_ | refine LWp.exit ?_ | refine LWp.ret ?_ | refine LWp.skip ?_ | refine LOps.valA ?_ | refine LOps.outA ?_ | refine LOps.whenA ?_ | refine LOps.pickA ?_ | refine LOps.storeA ?_)
  exact ⟨_, LRes.one rfl, rfl, rfl⟩
theorem nodeT_kind (hP : G.P = Try.prog) (h : NodeT S F b k l) : LCalls G 23 [ptr b] (fun r S' => r = .one (iv (k : Nat)) ∧ S' = S) S := by
  have hD : TabOK G.P D := by rw [hP]; exact hD0
  obtain ⟨X, Fs, hb, hs, _, _⟩ := h.ex
  obtain ⟨t, bs, rfl⟩ := hs.iface
  refine LCalls.enter (fn := Try.f23) (by rw [hP]; exact Try.func23) rfl rfl ?_
  repeat (first | refine LOps.nil ?_ | refine andThen_normal ?_ | refine andThen_exit ?_ | refine andThen_ret ?_ | refine inBlock_normal ?_ | refine inBlock_ret ?_ | refine inBlock_here ?_ | refine inBlock_out rfl ?_ | refine LWp.seq ?_ | refine LWp.region ?_ | refine LWp.block ?_ | refine LWp.exit ?_ | refine LWp.ret ?_ | refine LWp.skip ?_ | refine LOps.valA ?_ | refine LOps.outA ?_ | refine LOps.whenA ?_ | refine LOps.pickA ?_ | refine LOps.storeA ?_)
  refine LOps.do (LDo.callF (noneT_L hP hb) (by rw [hP]; exact Try.func33)) rfl rfl rfl ?_
  rintro _ _ ⟨rfl, rfl⟩
  repeat (first | refine LWp.condF rfl ?_ | refine LOps.nil ?_ | refine andThen_normal ?_ | refine andThen_exit ?_ | refine andThen_ret ?_ | refine inBlock_normal ?_ | refine inBlock_ret ?_ | refine inBlock_here ?_ | refine inBlock_out rfl ?_ | refine LWp.seq ?_ | refine LWp.region ?_ | refine LWp.block ?_ | refine LWp.exit ?_ | refine LWp.ret ?_ | refine LWp.skip ?_ | refine LOps.valA ?_ | refine LOps.outA ?_ | refine LOps.whenA ?_ | refine LOps.pickA ?_ | refine LOps.storeA ?_)
  exact ⟨_, LRes.one rfl, rfl, rfl⟩
end
end Go.Proofs.Ytinbibeapooghaa.LF
