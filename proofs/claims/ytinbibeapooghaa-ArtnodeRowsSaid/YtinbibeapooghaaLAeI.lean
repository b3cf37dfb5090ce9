/- The shapes as one, behind their interface; the node: none, Get, From, Len, Kind, of children of type int. (Printed by gen_art.py.) -/
import Derived.Test.YtinbibeapooghaaLAdI
set_option linter.unusedVariables false
set_option linter.unusedSimpArgs false
namespace Go.Proofs.Ytinbibeapooghaa.LF
open Go.RowKit
set_option linter.unusedVariables false
attribute [local irreducible] andThen inBlock LWp LOps LCalls

abbrev tSoI : TypeId := 52
abbrev tIxI : TypeId := 67
abbrev tDrI : TypeId := 68
theorem ldI_so_get : Leads Try.prog tSoI "marshalling/artnode.get" 54 := fun v args w => by kernel_rfl
theorem ldI_so_set : Leads Try.prog tSoI "marshalling/artnode.set" 55 := fun v args w => by kernel_rfl
theorem ldI_so_drop : Leads Try.prog tSoI "marshalling/artnode.drop" 52 := fun v args w => by kernel_rfl
theorem ldI_so_from : Leads Try.prog tSoI "marshalling/artnode.from" 53 := fun v args w => by kernel_rfl
theorem ldI_ix_get : Leads Try.prog tIxI "marshalling/artnode.get" 74 := fun v args w => by kernel_rfl
theorem ldI_ix_set : Leads Try.prog tIxI "marshalling/artnode.set" 75 := fun v args w => by kernel_rfl
theorem ldI_ix_drop : Leads Try.prog tIxI "marshalling/artnode.drop" 72 := fun v args w => by kernel_rfl
theorem ldI_ix_from : Leads Try.prog tIxI "marshalling/artnode.from" 73 := fun v args w => by kernel_rfl
theorem ldI_dr_get : Leads Try.prog tDrI "marshalling/artnode.get" 79 := fun v args w => by kernel_rfl
theorem ldI_dr_set : Leads Try.prog tDrI "marshalling/artnode.set" 80 := fun v args w => by kernel_rfl
theorem ldI_dr_drop : Leads Try.prog tDrI "marshalling/artnode.drop" 77 := fun v args w => by kernel_rfl
theorem ldI_dr_from : Leads Try.prog tDrI "marshalling/artnode.from" 78 := fun v args w => by kernel_rfl

/-- A shape: its blocks, the interface value, the kind, the children. -/
inductive ShI (S : LS) : (Nat → Prop) → LV → Nat → Kv Int → Prop
  | so (bs : Nat) (A B : LV) (k : Nat) (l : Kv Int) (hk : k = 4 ∨ k = 16) (h : SoI S bs A B l) : ShI S (FSb bs A B) (ifc tSoI bs) k l
  | ix (bs : Nat) (l : Kv Int) (h : IxI S bs l) : ShI S (fun c => c = bs) (ifc tIxI bs) 48 l
  | dr (bs : Nat) (l : Kv Int) (h : DrI S bs l) : ShI S (fun c => c = bs) (ifc tDrI bs) 256 l
section
variable {S S' : LS} {F : Nat → Prop} {X : LV} {k : Nat} {l : Kv Int}
theorem ShI.ks (h : ShI S F X k l) : KS l := by
  cases h with
  | so bs A B _ _ hk h => exact h.ks
  | ix bs _ h => obtain ⟨_, _, _, _, h⟩ := h; exact h.ks
  | dr bs _ h => obtain ⟨_, _, _, h⟩ := h; exact h.ks
theorem ShI.block (h : ShI S F X k l) {c : Nat} (hc : F c) : ∃ cs, S.box c = some cs := by
  cases h with
  | so bs A B _ _ hk h =>
    rcases hc with rfl | hc | hc
    · exact ⟨_, h.box⟩
    · exact h.ka.block c hc
    · exact h.kb.block c hc
  | ix bs _ h => obtain ⟨_, _, _, hb, _⟩ := h; exact ⟨_, (show c = bs from hc) ▸ hb⟩
  | dr bs _ h => obtain ⟨_, _, hb, _⟩ := h; exact ⟨_, (show c = bs from hc) ▸ hb⟩
theorem ShI.keep (h : ShI S F X k l) (hk : ∀ c cs, F c → S.box c = some cs → S'.box c = some cs) : ShI S' F X k l := by
  cases h with
  | so bs A B _ _ h1 h => exact .so bs A B _ _ h1 (h.off hk)
  | ix bs _ h => obtain ⟨_, _, _, hb, h⟩ := h; exact .ix bs _ ⟨_, _, _, hk _ _ rfl hb, h⟩
  | dr bs _ h => obtain ⟨_, _, hb, h⟩ := h; exact .dr bs _ ⟨_, _, hk _ _ rfl hb, h⟩
theorem ShI.iface (h : ShI S F X k l) : ∃ t b, X = ifc t b := by
  cases h with
  | so bs A B _ _ h1 h => exact ⟨_, _, rfl⟩
  | ix bs _ h => exact ⟨_, _, rfl⟩
  | dr bs _ h => exact ⟨_, _, rfl⟩

section
variable {G : Ctx} {o : Oper} {T : Nat → TV} {rv x y : Operand} {ts : Array TypeId} {b : Nat}
theorem ShI.get (h : ShI S F X k l) (hP : G.P = Try.prog) (hb : b < 256) (ho : o.op = .call { callee := .invoke rv "marshalling/artnode.get", args := #[x], argTypes := ts }) (hv : lev T rv = .one X) (hx : shTV (lev T x) = .one (uv (b : Nat))) :
    LDo G o T S (fun r S' => r = getI l b ∧ S' = S) := by
  cases h with
  | so bs A B _ _ h1 h => exact LDo.invoke (xs := [x]) (soI_get hP h b) (hP ▸ ldI_so_get) ho hv (congrArg (fun z => [z]) hx)
  | ix bs _ h => exact LDo.invoke (xs := [x]) (ixI_get hP h hb) (hP ▸ ldI_ix_get) ho hv (congrArg (fun z => [z]) hx)
  | dr bs _ h => exact LDo.invoke (xs := [x]) (drI_get hP h hb) (hP ▸ ldI_dr_get) ho hv (congrArg (fun z => [z]) hx)
theorem ShI.from {n : Int} (h : ShI S F X k l) (hP : G.P = Try.prog) (ho : o.op = .call { callee := .invoke rv "marshalling/artnode.from", args := #[x], argTypes := ts }) (hv : lev T rv = .one X) (hx : shTV (lev T x) = .one (iv n)) :
    LDo G o T S (fun r S' => r = fromI (fromL l n) ∧ S' = S) := by
  cases h with
  | so bs A B _ _ h1 h => exact LDo.invoke (xs := [x]) (soI_from hP h n) (hP ▸ ldI_so_from) ho hv (congrArg (fun z => [z]) hx)
  | ix bs _ h => exact LDo.invoke (xs := [x]) (ixI_from hP h n) (hP ▸ ldI_ix_from) ho hv (congrArg (fun z => [z]) hx)
  | dr bs _ h => exact LDo.invoke (xs := [x]) (drI_from hP h n) (hP ▸ ldI_dr_from) ho hv (congrArg (fun z => [z]) hx)
theorem ShI.set {z : Int} (h : ShI S F X k l) (hP : G.P = Try.prog) (hb : b < 256) (hroom : hasK l b = false → l.length < k) (ho : o.op = .call { callee := .invoke rv "marshalling/artnode.set", args := #[x, y], argTypes := ts }) (hv : lev T rv = .one X) (hx : shTV (lev T x) = .one (uv (b : Nat))) (hy : shTV (lev T y) = .one (iv z)) :
    LDo G o T S (fun r S' => ∃ F', ShI S' F' X k (setL l b z) ∧ MvF S F S' F') := by
  have hxy : [x, y].map (fun x => shTV (lev T x)) = [.one (uv (b : Nat)), .one (iv z)] := by rw [← hx, ← hy]; rfl
  cases h with
  | so bs A B _ _ h1 h => exact (LDo.invoke (xs := [x, y]) (soI_set hP h hb z) (hP ▸ ldI_so_set) ho hv hxy).mono' fun r S' ⟨A', B', h2, h3⟩ => ⟨_, .so bs A' B' _ _ h1 h2, h3⟩
  | ix bs _ h => exact (LDo.invoke (xs := [x, y]) (ixI_set hP h hb z hroom) (hP ▸ ldI_ix_set) ho hv hxy).mono' fun r S' ⟨h2, h3⟩ => ⟨_, .ix bs _ h2, h3⟩
  | dr bs _ h => exact (LDo.invoke (xs := [x, y]) (drI_set hP h hb z) (hP ▸ ldI_dr_set) ho hv hxy).mono' fun r S' ⟨h2, h3⟩ => ⟨_, .dr bs _ h2, h3⟩
theorem ShI.drop (h : ShI S F X k l) (hP : G.P = Try.prog) (hb : b < 256) (hk : hasK l b = true) (ho : o.op = .call { callee := .invoke rv "marshalling/artnode.drop", args := #[x], argTypes := ts }) (hv : lev T rv = .one X) (hx : shTV (lev T x) = .one (uv (b : Nat))) :
    LDo G o T S (fun r S' => ∃ F', ShI S' F' X k (delL l b) ∧ MvF S F S' F') := by
  cases h with
  | so bs A B _ _ h1 h => exact (LDo.invoke (xs := [x]) (soI_drop hP h b hk) (hP ▸ ldI_so_drop) ho hv (congrArg (fun z => [z]) hx)).mono' fun r S' ⟨A', B', h2, h3⟩ => ⟨_, .so bs A' B' _ _ h1 h2, h3⟩
  | ix bs _ h => exact (LDo.invoke (xs := [x]) (ixI_drop hP h hb hk) (hP ▸ ldI_ix_drop) ho hv (congrArg (fun z => [z]) hx)).mono' fun r S' ⟨h2, h3⟩ => ⟨_, .ix bs _ h2, h3⟩
  | dr bs _ h => exact (LDo.invoke (xs := [x]) (drI_drop hP h hb) (hP ▸ ldI_dr_drop) ho hv (congrArg (fun z => [z]) hx)).mono' fun r S' ⟨h2, h3⟩ => ⟨_, .dr bs _ h2, h3⟩
end
end

/-- A node: its blocks, where it is, its kind and children. -/
structure NodeI (S : LS) (F : Nat → Prop) (b k : Nat) (l : Kv Int) : Prop where
  ex : ∃ X Fs, S.box b = some [X, iv (k : Nat), iv (l.length : Nat)] ∧ ShI S Fs X k l ∧ ¬ Fs b ∧ ∀ c, F c ↔ c = b ∨ Fs c
  ok : NodeOK k l
theorem NodeI.block {S : LS} {F : Nat → Prop} {b k : Nat} {l : Kv Int} (h : NodeI S F b k l) {c : Nat} (hc : F c) : ∃ cs, S.box c = some cs := by
  obtain ⟨X, Fs, h1, h2, _, h4⟩ := h.ex
  rcases (h4 c).1 hc with rfl | hc
  · exact ⟨_, h1⟩
  · exact h2.block hc
theorem NodeI.keep {S S' : LS} {F : Nat → Prop} {b k : Nat} {l : Kv Int} (h : NodeI S F b k l) (hk : ∀ c cs, F c → S.box c = some cs → S'.box c = some cs) : NodeI S' F b k l := by
  obtain ⟨X, Fs, h1, h2, h3, h4⟩ := h.ex
  exact ⟨⟨X, Fs, hk _ _ ((h4 b).2 (.inl rfl)) h1, h2.keep fun c cs hc => hk c cs ((h4 c).2 (.inr hc)), h3, h4⟩, h.ok⟩
theorem NodeI.le {S S' : LS} {F : Nat → Prop} {b k : Nat} {l : Kv Int} (h : NodeI S F b k l) (hk : S.le S') : NodeI S' F b k l := h.keep fun c cs _ hc => hk.box c cs hc
theorem NodeI.fresh {S : LS} {F : Nat → Prop} {b k : Nat} {l : Kv Int} (h : NodeI S F b k l) {c : Nat} (hc : S.box c = none) : ¬ F c := fun e => by
  obtain ⟨cs, hcs⟩ := h.block e
  rw [hc] at hcs; cases hcs

theorem ifmI {G : Ctx} (hP : G.P = Try.prog) : G.P.underlying 57 = some (.interface (G.P.methodsAt 57)) := by rw [hP]; kernel_rfl

theorem noneI_L {G : Ctx} (hP : G.P = Try.prog) {S : LS} {b t c : Nat} {Y Z : LV} (hb : S.box b = some [ifc t c, Y, Z]) : LCalls G 29 [ptr b] (fun r S' => r = .one (bv false) ∧ S' = S) S := by
  have hD : TabOK G.P D := by rw [hP]; exact hD0
  have hm := ifmI hP
  refine LCalls.enter (fn := Try.f29) (by rw [hP]; exact Try.func29) rfl rfl ?_
  repeat (first | refine LOps.whenC (LVal.eqNilIf hm rfl rfl) ?_ | refine LOps.nil ?_ | refine andThen_normal ?_ | refine andThen_exit ?_ | refine andThen_ret ?_ | refine inBlock_normal ?_ | refine inBlock_ret ?_ | refine inBlock_here ?_ | refine inBlock_out rfl ?_ | refine LWp.seq ?_ | refine LWp.region ?_ | refine LWp.block ?_ | refine LWp.exit ?_ | refine LWp.ret ?_ | refine LWp.skip ?_ | refine LOps.valA ?_ | refine LOps.outA ?_ | refine LOps.whenA ?_ | refine LOps.pickA ?_ | refine LOps.storeA ?_)
  exact ⟨_, LRes.one rfl, rfl, rfl⟩
theorem noneNI_F {G : Ctx} (hP : G.P = Try.prog) : LFun G 29 [.one (.v (.pointer none))] (.one (bv true)) := LFun.of fun S => by
  have hD : TabOK G.P D := by rw [hP]; exact hD0
  refine LCalls.enter (fn := Try.f29) (by rw [hP]; exact Try.func29) rfl rfl ?_
  repeat (first | refine LOps.nil ?_ | refine andThen_normal ?_ | refine andThen_exit ?_ | refine andThen_ret ?_ | refine inBlock_normal ?_ | refine inBlock_ret ?_ | refine inBlock_here ?_ | refine inBlock_out rfl ?_ | refine LWp.seq ?_ | refine LWp.region ?_ | refine LWp.block ?_ | refine LWp.exit ?_ | refine LWp.ret ?_ | refine LWp.skip ?_ | refine LOps.valA ?_ | refine LOps.outA ?_ | refine LOps.whenA ?_ | refine LOps.pickA ?_ | refine LOps.storeA ?_)
  exact ⟨_, LRes.one rfl, rfl, .refl _⟩

section
variable {G : Ctx} {S : LS} {F : Nat → Prop} {b k : Nat} {l : Kv Int}
theorem nodeI_get (hP : G.P = Try.prog) (h : NodeI S F b k l) {c : Nat} (hc : c < 256) : LCalls G 18 [ptr b, .one (uv (c : Nat))] (fun r S' => r = getI l c ∧ S' = S) S := by
  have hD : TabOK G.P D := by rw [hP]; exact hD0
  obtain ⟨X, Fs, hb, hs, _, _⟩ := h.ex
  obtain ⟨t, bs, rfl⟩ := hs.iface
  refine LCalls.enter (fn := Try.f18) (by rw [hP]; exact Try.func18) rfl rfl ?_
  repeat (first | refine LOps.nil ?_ | refine andThen_normal ?_ | refine andThen_exit ?_ | refine andThen_ret ?_ | refine inBlock_normal ?_ | refine inBlock_ret ?_ | refine inBlock_here ?_ | refine inBlock_out rfl ?_ | refine LWp.seq ?_ | refine LWp.region ?_ | refine LWp.block ?_ | refine LWp.exit ?_ | refine LWp.ret ?_ | refine LWp.skip ?_ | refine LOps.valA ?_ | refine LOps.outA ?_ | refine LOps.whenA ?_ | refine LOps.pickA ?_ | refine LOps.storeA ?_)
  refine LOps.do (LDo.callF (noneI_L hP hb) (by rw [hP]; exact Try.func29)) rfl rfl rfl ?_
  rintro _ _ ⟨rfl, rfl⟩
  repeat (first | refine LWp.condF rfl ?_ | refine LOps.nil ?_ | refine andThen_normal ?_ | refine andThen_exit ?_ | refine andThen_ret ?_ | refine inBlock_normal ?_ | refine inBlock_ret ?_ | refine inBlock_here ?_ | refine inBlock_out rfl ?_ | refine LWp.seq ?_ | refine LWp.region ?_ | refine LWp.block ?_ | refine LWp.exit ?_ | refine LWp.ret ?_ | refine LWp.skip ?_ | refine LOps.valA ?_ | refine LOps.outA ?_ | refine LOps.whenA ?_ | refine LOps.pickA ?_ | refine LOps.storeA ?_)
  refine LOps.do (hs.get hP hc rfl rfl rfl) rfl rfl rfl ?_
  rintro _ _ ⟨rfl, rfl⟩
  repeat (first | refine LOps.nil ?_ | refine andThen_normal ?_ | refine andThen_exit ?_ | refine andThen_ret ?_ | refine inBlock_normal ?_ | refine inBlock_ret ?_ | refine inBlock_here ?_ | refine inBlock_out rfl ?_ | refine LWp.seq ?_ | refine LWp.region ?_ | refine LWp.block ?_ | refine LWp.exit ?_ | refine LWp.ret ?_ | refine LWp.skip ?_ | refine LOps.valA ?_ | refine LOps.outA ?_ | refine LOps.whenA ?_ | refine LOps.pickA ?_ | refine LOps.storeA ?_)
  exact ⟨_, LRes.two rfl, rfl, rfl⟩
theorem nodeI_from (hP : G.P = Try.prog) (h : NodeI S F b k l) (n : Int) : LCalls G 15 [ptr b, .one (iv n)] (fun r S' => r = fromI (fromL l n) ∧ S' = S) S := by
  have hD : TabOK G.P D := by rw [hP]; exact hD0
  obtain ⟨X, Fs, hb, hs, _, _⟩ := h.ex
  obtain ⟨t, bs, rfl⟩ := hs.iface
  refine LCalls.enter (fn := Try.f15) (by rw [hP]; exact Try.func15) rfl rfl ?_
  repeat (first | refine LOps.nil ?_ | refine andThen_normal ?_ | refine andThen_exit ?_ | refine andThen_ret ?_ | refine inBlock_normal ?_ | refine inBlock_ret ?_ | refine inBlock_here ?_ | refine inBlock_out rfl ?_ | refine LWp.seq ?_ | refine LWp.region ?_ | refine LWp.block ?_ | refine LWp.exit ?_ | refine LWp.ret ?_ | refine LWp.skip ?_ | refine LOps.valA ?_ | refine LOps.outA ?_ | refine LOps.whenA ?_ | refine LOps.pickA ?_ | refine LOps.storeA ?_)
  refine LOps.do (LDo.callF (noneI_L hP hb) (by rw [hP]; exact Try.func29)) rfl rfl rfl ?_
  rintro _ _ ⟨rfl, rfl⟩
  repeat (first | refine LWp.condF rfl ?_ | refine LOps.nil ?_ | refine andThen_normal ?_ | refine andThen_exit ?_ | refine andThen_ret ?_ | refine inBlock_normal ?_ | refine inBlock_ret ?_ | refine inBlock_here ?_ | refine inBlock_out rfl ?_ | refine LWp.seq ?_ | refine LWp.region ?_ | refine LWp.block ?_ | refine LWp.exit ?_ | refine LWp.ret ?_ | refine LWp.skip ?_ | refine LOps.valA ?_ | refine LOps.outA ?_ | refine LOps.whenA ?_ | refine LOps.pickA ?_ | refine LOps.storeA ?_)
  refine LOps.do (hs.from hP rfl rfl rfl) rfl rfl rfl ?_
  rintro _ _ ⟨rfl, rfl⟩
  cases hq : fromL l n with
  | none =>
    repeat (first | refine LOps.nil ?_ | refine andThen_normal ?_ | refine andThen_exit ?_ | refine andThen_ret ?_ | refine inBlock_normal ?_ | refine inBlock_ret ?_ | refine inBlock_here ?_ | refine inBlock_out rfl ?_ | refine LWp.seq ?_ | refine LWp.region ?_ | refine LWp.block ?_ | refine LWp.exit ?_ | refine LWp.ret ?_ | refine LWp.skip ?_ | refine LOps.valA ?_ | refine LOps.outA ?_ | refine LOps.whenA ?_ | refine LOps.pickA ?_ | refine LOps.storeA ?_)
    exact ⟨_, LRes.three rfl, rfl, rfl⟩
  | some p =>
    repeat (first | refine LOps.nil ?_ | refine andThen_normal ?_ | refine andThen_exit ?_ | refine andThen_ret ?_ | refine inBlock_normal ?_ | refine inBlock_ret ?_ | refine inBlock_here ?_ | refine inBlock_out rfl ?_ | refine LWp.seq ?_ | refine LWp.region ?_ | refine LWp.block ?_ | refine LWp.exit ?_ | refine LWp.ret ?_ | refine LWp.skip ?_ | refine LOps.valA ?_ | refine LOps.outA ?_ | refine LOps.whenA ?_ | refine LOps.pickA ?_ | refine LOps.storeA ?_)
    exact ⟨_, LRes.three rfl, rfl, rfl⟩
theorem nodeI_len (hP : G.P = Try.prog) (h : NodeI S F b k l) : LCalls G 20 [ptr b] (fun r S' => r = .one (iv (l.length : Nat)) ∧ S' = S) S := by
  have hD : TabOK G.P D := by rw [hP]; exact hD0
  obtain ⟨X, Fs, hb, hs, _, _⟩ := h.ex
  obtain ⟨t, bs, rfl⟩ := hs.iface
  refine LCalls.enter (fn := Try.f20) (by rw [hP]; exact Try.func20) rfl rfl ?_
  repeat (first | refine LOps.nil ?_ | refine andThen_normal ?_ | refine andThen_exit ?_ | refine andThen_ret ?_ | refine inBlock_normal ?_ | refine inBlock_ret ?_ | refine inBlock_here ?_ | refine inBlock_out rfl ?_ | refine LWp.seq ?_ | refine LWp.region ?_ | refine LWp.block ?_ | refine LWp.exit ?_ | refine LWp.ret ?_ | refine LWp.skip ?_ | refine LOps.valA ?_ | refine LOps.outA ?_ | refine LOps.whenA ?_ | refine LOps.pickA ?_ | refine LOps.storeA ?_)
  refine LOps.do (LDo.callF (noneI_L hP hb) (by rw [hP]; exact Try.func29)) rfl rfl rfl ?_
  rintro _ _ ⟨rfl, rfl⟩
  repeat (first | refine LWp.condF rfl ?_ | refine LOps.nil ?_ | refine andThen_normal ?_ | refine andThen_exit ?_ | refine andThen_ret ?_ | refine inBlock_normal ?_ | refine inBlock_ret ?_ | refine inBlock_here ?_ | refine inBlock_out rfl ?_ | refine LWp.seq ?_ | refine LWp.region ?_ | refine LWp.block ?_ | refine LWp.exit ?_ | refine LWp.ret ?_ | refine LWp.skip ?_ | refine LOps.valA ?_ | refine LOps.outA ?_ | refine LOps.whenA ?_ | refine LOps.pickA ?_ | refine LOps.storeA ?_)
  exact ⟨_, LRes.one rfl, rfl, rfl⟩
theorem nodeI_kind (hP : G.P = Try.prog) (h : NodeI S F b k l) : LCalls G 21 [ptr b] (fun r S' => r = .one (iv (k : Nat)) ∧ S' = S) S := by
  have hD : TabOK G.P D := by rw [hP]; exact hD0
  obtain ⟨X, Fs, hb, hs, _, _⟩ := h.ex
  obtain ⟨t, bs, rfl⟩ := hs.iface
  refine LCalls.enter (fn := Try.f21) (by rw [hP]; exact Try.func21) rfl rfl ?_
  repeat (first | refine LOps.nil ?_ | refine andThen_normal ?_ | refine andThen_exit ?_ | refine andThen_ret ?_ | refine inBlock_normal ?_ | refine inBlock_ret ?_ | refine inBlock_here ?_ | refine inBlock_out rfl ?_ | refine LWp.seq ?_ | refine LWp.region ?_ | refine LWp.block ?_ | refine LWp.exit ?_ | refine LWp.ret ?_ | refine LWp.skip ?_ | refine LOps.valA ?_ | refine LOps.outA ?_ | refine LOps.whenA ?_ | refine LOps.pickA ?_ | refine LOps.storeA ?_)
  refine LOps.do (LDo.callF (noneI_L hP hb) (by rw [hP]; exact Try.func29)) rfl rfl rfl ?_
  rintro _ _ ⟨rfl, rfl⟩
  repeat (first | refine LWp.condF rfl ?_ | refine LOps.nil ?_ | refine andThen_normal ?_ | refine andThen_exit ?_ | refine andThen_ret ?_ | refine inBlock_normal ?_ | refine inBlock_ret ?_ | refine inBlock_here ?_ | refine inBlock_out rfl ?_ | refine LWp.seq ?_ | refine LWp.region ?_ | refine LWp.block ?_ | refine LWp.exit ?_ | refine LWp.ret ?_ | refine LWp.skip ?_ | refine LOps.valA ?_ | refine LOps.outA ?_ | refine LOps.whenA ?_ | refine LOps.pickA ?_ | refine LOps.storeA ?_)
  exact ⟨_, LRes.one rfl, rfl, rfl⟩
end
end Go.Proofs.Ytinbibeapooghaa.LF
