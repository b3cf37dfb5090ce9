/- The law's word for a node that has what the document's has. -/
import Derived.Test.YtinbibeapooghaaLAi
import Derived.Test.YtinbibeapooghaaLAr
set_option linter.unusedVariables false
set_option linter.unusedSimpArgs false
namespace Go.Proofs.Ytinbibeapooghaa.LF
open Go.RowKit
set_option linter.unusedVariables false
attribute [local irreducible] andThen inBlock LWp LOps LCalls

def bndK (l : Kv Int) : Nat → Int
  | 0 => 0
  | k + 1 => match l[k]? with
    | some p => (p.1 : Int) + 1
    | none => 0
theorem bndK_from {l : Kv Int} (ks : KS l) : ∀ {k : Nat}, k ≤ l.length → fromL l (bndK l k) = l[k]?
  | 0, _ => fromL_zero l
  | k + 1, hk => by
    have h : k < l.length := by omega
    simp only [bndK, List.getElem?_eq_getElem h]
    exact fromL_next ks h
theorem Rf.le {S S' : LS} {w k : Nat} {l : Kv Int} (h : Rf S w k l) (hle : S.le S') : Rf S' w k l := by
  obtain ⟨hs, kd, hb, h⟩ := h
  exact ⟨hs, kd, hle.box _ _ hb, h⟩

set_option maxHeartbeats 8000000 in
set_option maxRecDepth 20000 in
theorem alike_L {G : Ctx} (hP : G.P = Try.prog) {S : LS} {F : Nat → Prop} {b w k : Nat} {l : Kv Int} (hn : NodeI S F b k l) (hr : Rf S w k l) :
    LCalls G 17 [ptr b, ptr w] (fun r S' => r = .one (bv true) ∧ S.le S') S := by
  have hD : TabOK G.P D := by rw [hP]; exact hD0
  have ks := hn.ok.ks
  have hlen := ks.len
  refine LCalls.enter (fn := Try.f17) (by rw [hP]; exact Try.func17) rfl rfl ?_
  repeat (first | refine LOps.nil ?_ | refine andThen_normal ?_ | refine andThen_exit ?_ | refine andThen_ret ?_ | refine inBlock_normal ?_ | refine inBlock_ret ?_ | refine inBlock_here ?_ | refine inBlock_out rfl ?_ | refine LWp.seq ?_ | refine LWp.region ?_ | refine LWp.block ?_ | refine LWp.exit ?_ | refine LWp.ret ?_ | refine LWp.skip ?_ | refine LOps.valA ?_ | refine LOps.outA ?_ | refine LOps.whenA ?_ | refine LOps.pickA ?_ | refine LOps.storeA ?_)
  have hle := LS.le.refl S
  refine LOps.do (LDo.box rfl rfl) rfl rfl rfl ?_
  rintro _ _ ⟨b3, hb3, rfl, rfl⟩
  have s3 := hle.none hb3
  refine LOps.gen (fun S' => S.le S' ∧ S'.box b3 = some ([.v (.pointer (some ⟨w, 0, none⟩))])) ⟨hle.newBox hb3 _, box_new _ _ _⟩ ?_
  clear hle hb3 
  rintro S3 ⟨hle, k3⟩
  skip
  refine LOps.do (LDo.alloc hD rfl rfl rfl) rfl rfl rfl ?_
  rintro _ _ ⟨b4, hb4, rfl, rfl⟩
  have n3_4 := fresh_ne hb4 k3
  have m4_3 := n3_4.symm
  have s4 := hle.none hb4
  refine LOps.gen (fun S' => S.le S' ∧ S'.box b3 = some ([.v (.pointer (some ⟨w, 0, none⟩))]) ∧ S'.box b4 = some ([bv false])) ⟨hle.newBox hb4 _, (box_new_ne _ _ n3_4).trans k3, box_new _ _ _⟩ ?_
  clear hle hb4 k3
  rintro S4 ⟨hle, k3, k4⟩
  have hn1 := hn.le hle
  obtain ⟨hs, kd, hw, hok⟩ := hr.le hle
  have hh := hok.hh
  have hk := hok.hk
  repeat (first | refine LOps.nil ?_ | refine andThen_normal ?_ | refine andThen_exit ?_ | refine andThen_ret ?_ | refine inBlock_normal ?_ | refine inBlock_ret ?_ | refine inBlock_here ?_ | refine inBlock_out rfl ?_ | refine LWp.seq ?_ | refine LWp.region ?_ | refine LWp.block ?_ | refine LWp.exit ?_ | refine LWp.ret ?_ | refine LWp.skip ?_ | refine LOps.valA ?_ | refine LOps.outA ?_ | refine LOps.whenA ?_ | refine LOps.pickA ?_ | refine LOps.storeA ?_)
  refine LWp.drawL [0, 1, 2, 3, 4, 5, 6, 7, 8, 9, 10, 11, 12, 13, 14, 15] (by rw [hP]; rfl) rfl ?_
  repeat (first | refine LRl.valH (LVal.load hD rfl rfl k3 rfl rfl) ?_ (fun _ hS => LVal.load hD rfl rfl (hS.box _ _ k3 (by first | exact id | (intro hx; rcases hx with hx | hx <;> omega) | (intro hx; have hx2 : _ = _ := hx; omega) | (intro hx; exact absurd hx.1 (by decide)))) rfl rfl) | refine LRl.val (r := .one (iv (l.length : Nat))) (fun _ hS => LVal.load hD rfl rfl (hS.box _ _ hw id) rfl (rd_one rfl (rf_n hh hk))) rfl rfl rfl ?_ | refine LRl.val (r := .one (iv (k : Nat))) (fun _ hS => LVal.load hD rfl rfl (hS.box _ _ hw id) rfl (rd_one rfl (rf_k hh hk))) rfl rfl rfl ?_ | refine LRl.val (fun _ hS => LVal.callS (nodeI_len hP (hn1.keep fun c cs _ hc => hS.box c cs hc id)) (by rw [hP]; exact Try.func20) rfl rfl rfl (by decide)) rfl rfl rfl ?_ | refine LRl.val (fun _ hS => LVal.callS (nodeI_kind hP (hn1.keep fun c cs _ hc => hS.box c cs hc id)) (by rw [hP]; exact Try.func21) rfl rfl rfl (by decide)) rfl rfl rfl ?_ | refine LRl.val (r := .one (bv false)) (fun _ _ => LVal.to (LVal.binOp hD rfl rfl rfl rfl) (by show TV.one (.v (.bool (((l.length : Nat) : Int) != ((l.length : Nat) : Int)))) = _; simp)) rfl rfl rfl ?_ | refine LRl.val (r := .one (bv false)) (fun _ _ => LVal.to (LVal.binOp hD rfl rfl rfl rfl) (by show TV.one (.v (.bool (((k : Nat) : Int) != ((k : Nat) : Int)))) = _; simp)) rfl rfl rfl ?_ | refine LRl.val (r := .one (bv false)) (fun _ _ => LVal.to (LVal.pick rfl rfl) rfl) rfl rfl rfl ?_ | refine LRl.val (fun _ _ => LVal.move (.inl rfl)) rfl rfl rfl ?_ | refine LRl.val (fun _ _ => LVal.nilCheck rfl rfl) rfl rfl rfl ?_ | refine LRl.val (fun _ _ => LVal.fieldAddr hD rfl rfl rfl rfl rfl rfl (by decide)) rfl rfl rfl ?_ | refine LRl.nil ?_ | refine LRl.valA ?_ | refine LRl.outA ?_ | refine LRl.whenA ?_ | refine LRl.pickA ?_)
  repeat (first | refine LWp.condF rfl ?_ | refine LWp.seq (LWp.cut 3 (fun T1 S2 => S2 = S4 ∧ ∃ (T2 : Nat → TV), T1 = over T2 [(0, ptr b), (3, ptr b3), (4, ptr b4)]) rfl ?_ ?_) | refine LOps.nil ?_ | refine andThen_normal ?_ | refine andThen_exit ?_ | refine andThen_ret ?_ | refine inBlock_normal ?_ | refine inBlock_ret ?_ | refine inBlock_here ?_ | refine inBlock_out rfl ?_ | refine LWp.seq ?_ | refine LWp.region ?_ | refine LWp.block ?_ | refine LWp.exit ?_ | refine LWp.ret ?_ | refine LWp.skip ?_ | refine LOps.valA ?_ | refine LOps.outA ?_ | refine LOps.whenA ?_ | refine LOps.pickA ?_ | refine LOps.storeA ?_)
  · repeat (first | refine LOps.nil ?_ | refine andThen_normal ?_ | refine andThen_exit ?_ | refine andThen_ret ?_ | refine inBlock_normal ?_ | refine inBlock_ret ?_ | refine inBlock_here ?_ | refine inBlock_out rfl ?_ | refine LWp.seq ?_ | refine LWp.region ?_ | refine LWp.block ?_ | refine LWp.exit ?_ | refine LWp.ret ?_ | refine LWp.skip ?_ | refine LOps.valA ?_ | refine LOps.outA ?_ | refine LOps.whenA ?_ | refine LOps.pickA ?_ | refine LOps.storeA ?_)
    refine LWp.loop (fun m T S' => S' = S4 ∧ ∃ (T' : Nat → TV) (j : Nat), j ≤ 256 ∧ m = 256 - j ∧ T = over T' [(0, ptr b), (3, ptr b3), (4, ptr b4), (5, .one (iv (j : Nat)))]) 256 ?_ ?_
    · exact ⟨rfl, _, 0, by omega, rfl, holds.over ⟨rfl, rfl, rfl, rfl, trivial⟩⟩
    rintro m T S4 ⟨rfl, T', j, hj, rfl, rfl⟩
    repeat (first | refine LOps.nil ?_ | refine andThen_normal ?_ | refine andThen_exit ?_ | refine andThen_ret ?_ | refine inBlock_normal ?_ | refine inBlock_ret ?_ | refine inBlock_here ?_ | refine inBlock_out rfl ?_ | refine LWp.seq ?_ | refine LWp.region ?_ | refine LWp.block ?_ | refine LWp.exit ?_ | refine LWp.ret ?_ | refine LWp.skip ?_ | refine LOps.valA ?_ | refine LOps.outA ?_ | refine LOps.whenA ?_ | refine LOps.pickA ?_ | refine LOps.storeA ?_)
    refine LWp.cond rfl (fun h => ?_) (fun h => ?_)
    · have hlt : j < 256 := by have h : decide ((j : Int) < 256) = true := h; simp at h; omega
      have c1 := nodeI_get hP hn1 hlt
      have c2 := rget_L hP (S := S4) ⟨hs, kd, hw, hok⟩ hlt
      repeat (first | refine LOps.valH (r := .one (uv (j : Nat))) (LVal.to (LVal.convInt hD rfl rfl rfl rfl rfl) (by rw [rf_wrap8 (n := j) hlt])) ?_ | refine LOps.valH (LVal.callS c1 (by rw [hP]; exact Try.func18) rfl rfl rfl (by decide)) ?_ | refine LOps.valH (LVal.callS c2 (by rw [hP]; exact Try.func31) rfl rfl rfl (by decide)) ?_ | refine LOps.nil ?_ | refine andThen_normal ?_ | refine andThen_exit ?_ | refine andThen_ret ?_ | refine inBlock_normal ?_ | refine inBlock_ret ?_ | refine inBlock_here ?_ | refine inBlock_out rfl ?_ | refine LWp.seq ?_ | refine LWp.region ?_ | refine LWp.block ?_ | refine LWp.exit ?_ | refine LWp.ret ?_ | refine LWp.skip ?_ | refine LOps.valA ?_ | refine LOps.outA ?_ | refine LOps.whenA ?_ | refine LOps.pickA ?_ | refine LOps.storeA ?_)
      refine LWp.cond rfl (fun h => ?_) (fun h => ?_)
      · exact absurd h (by simp)
      · repeat (first | refine LOps.nil ?_ | refine andThen_normal ?_ | refine andThen_exit ?_ | refine andThen_ret ?_ | refine inBlock_normal ?_ | refine inBlock_ret ?_ | refine inBlock_here ?_ | refine inBlock_out rfl ?_ | refine LWp.seq ?_ | refine LWp.region ?_ | refine LWp.block ?_ | refine LWp.exit ?_ | refine LWp.ret ?_ | refine LWp.skip ?_ | refine LOps.valA ?_ | refine LOps.outA ?_ | refine LOps.whenA ?_ | refine LOps.pickA ?_ | refine LOps.storeA ?_)
        exact ⟨256 - (j + 1), by omega, rfl, _, j + 1, by omega, rfl, holds.over ⟨rfl, rfl, rfl, rfl, trivial⟩⟩
    · repeat (first | refine LOps.nil ?_ | refine andThen_normal ?_ | refine andThen_exit ?_ | refine andThen_ret ?_ | refine inBlock_normal ?_ | refine inBlock_ret ?_ | refine inBlock_here ?_ | refine inBlock_out rfl ?_ | refine LWp.seq ?_ | refine LWp.region ?_ | refine LWp.block ?_ | refine LWp.exit ?_ | refine LWp.ret ?_ | refine LWp.skip ?_ | refine LOps.valA ?_ | refine LOps.outA ?_ | refine LOps.whenA ?_ | refine LOps.pickA ?_ | refine LOps.storeA ?_)
      exact ⟨rfl, _, holds.over ⟨rfl, rfl, rfl, trivial⟩⟩
  rintro T1 _ ⟨rfl, T2, rfl⟩
  repeat (first | refine LOps.nil ?_ | refine andThen_normal ?_ | refine andThen_exit ?_ | refine andThen_ret ?_ | refine inBlock_normal ?_ | refine inBlock_ret ?_ | refine inBlock_here ?_ | refine inBlock_out rfl ?_ | refine LWp.seq ?_ | refine LWp.region ?_ | refine LWp.block ?_ | refine LWp.exit ?_ | refine LWp.ret ?_ | refine LWp.skip ?_ | refine LOps.valA ?_ | refine LOps.outA ?_ | refine LOps.whenA ?_ | refine LOps.pickA ?_ | refine LOps.storeA ?_)
  skip
  refine LOps.do (LDo.alloc hD rfl rfl rfl) rfl rfl rfl ?_
  rintro _ _ ⟨b10, hb10, rfl, rfl⟩
  have n3_10 := fresh_ne hb10 k3
  have m10_3 := n3_10.symm
  have n4_10 := fresh_ne hb10 k4
  have m10_4 := n4_10.symm
  have s10 := hle.none hb10
  refine LOps.gen (fun S' => S.le S' ∧ S'.box b3 = some ([.v (.pointer (some ⟨w, 0, none⟩))]) ∧ S'.box b4 = some ([bv false]) ∧ S'.box b10 = some ([iv 0])) ⟨hle.newBox hb10 _, (box_new_ne _ _ n3_10).trans k3, (box_new_ne _ _ n4_10).trans k4, box_new _ _ _⟩ ?_
  clear hle hb10 k3 k4
  rintro S10 ⟨hle, k3, k4, k10⟩
  repeat (first | refine LOps.nil ?_ | refine andThen_normal ?_ | refine andThen_exit ?_ | refine andThen_ret ?_ | refine inBlock_normal ?_ | refine inBlock_ret ?_ | refine inBlock_here ?_ | refine inBlock_out rfl ?_ | refine LWp.seq ?_ | refine LWp.region ?_ | refine LWp.block ?_ | refine LWp.exit ?_ | refine LWp.ret ?_ | refine LWp.skip ?_ | refine LOps.valA ?_ | refine LOps.outA ?_ | refine LOps.whenA ?_ | refine LOps.pickA ?_)
  refine LOps.storeA (b := b10) (off := 0) (cs := [iv 0]) (l := [iv 0]) ?_
  refine LOps.gen (fun S' => S.le S' ∧ S'.box b3 = some ([.v (.pointer (some ⟨w, 0, none⟩))]) ∧ S'.box b4 = some ([bv false]) ∧ S'.box b10 = some ([iv 0])) ⟨hle.setBox s10 _, (box_set_ne _ _ n3_10).trans k3, (box_set_ne _ _ n4_10).trans k4, (box_set _ _ _).trans (congrArg some (rfl))⟩ ?_
  clear hle k3 k4 k10
  rintro Ss ⟨hle, k3, k4, k10⟩
  repeat (first | refine LOps.nil ?_ | refine andThen_normal ?_ | refine andThen_exit ?_ | refine andThen_ret ?_ | refine inBlock_normal ?_ | refine inBlock_ret ?_ | refine inBlock_here ?_ | refine inBlock_out rfl ?_ | refine LWp.seq ?_ | refine LWp.region ?_ | refine LWp.block ?_ | refine LWp.exit ?_ | refine LWp.ret ?_ | refine LWp.skip ?_ | refine LOps.valA ?_ | refine LOps.outA ?_ | refine LOps.whenA ?_ | refine LOps.pickA ?_ | refine LOps.storeA ?_)
  refine LOps.do (LDo.callX (allI_L hP ((hn.le hle).tells hP) (hn.le hle)) (by rw [hP]; exact Try.func19)) rfl rfl rfl ?_
  rintro _ S5 ⟨p, q, rfl, le5, _, _, _⟩
  replace hle := hle.trans le5
  replace k3 := le5.box _ _ k3
  replace k4 := le5.box _ _ k4
  replace k10 := le5.box _ _ k10
  clear le5
  repeat (first | refine LWp.condF rfl ?_ | refine LOps.nil ?_ | refine andThen_normal ?_ | refine andThen_exit ?_ | refine andThen_ret ?_ | refine inBlock_normal ?_ | refine inBlock_ret ?_ | refine inBlock_here ?_ | refine inBlock_out rfl ?_ | refine LWp.seq ?_ | refine LWp.region ?_ | refine LWp.block ?_ | refine LWp.exit ?_ | refine LWp.ret ?_ | refine LWp.skip ?_ | refine LOps.valA ?_ | refine LOps.outA ?_ | refine LOps.whenA ?_ | refine LOps.pickA ?_ | refine LOps.storeA ?_)
  refine LOps.do (LDo.callX (allI_L hP ((hn.le hle).tells hP) (hn.le hle)) (by rw [hP]; exact Try.func19)) rfl rfl rfl ?_
  rintro _ S6 ⟨p, q, rfl, le6, np, nq, htab⟩
  have np10 : b10 ≠ p := fun e => by rw [e, np] at k10; cases k10
  have nq10 : b10 ≠ q := fun e => by rw [e, nq] at k10; cases k10
  replace hle := hle.trans le6
  replace k3 := le6.box _ _ k3
  replace k4 := le6.box _ _ k4
  replace k10 := le6.box _ _ k10
  clear le6 np nq
  repeat (first | refine LOps.nil ?_ | refine andThen_normal ?_ | refine andThen_exit ?_ | refine andThen_ret ?_ | refine inBlock_normal ?_ | refine inBlock_ret ?_ | refine inBlock_here ?_ | refine inBlock_out rfl ?_ | refine LWp.seq ?_ | refine LWp.region ?_ | refine LWp.block ?_ | refine LWp.exit ?_ | refine LWp.ret ?_ | refine LWp.skip ?_ | refine LOps.valA ?_ | refine LOps.outA ?_ | refine LOps.whenA ?_ | refine LOps.pickA ?_ | refine LOps.storeA ?_)
  refine LWp.rangeFuncK (xs := yieldsI l) (C := tabI p q l) rfl (by rw [hP]; exact Try.func32) rfl rfl rfl rfl (fun x hx => by
      obtain ⟨k, _, rfl⟩ := List.mem_map.1 hx; rfl) (fun G' e => allI_iter (e.trans hP) l hlen p q)
    (fun k S' => S.le S' ∧ S'.box b3 = some [.v (.pointer (some ⟨w, 0, none⟩))] ∧ S'.box b4 = some [bv false] ∧ S'.box b10 = some [iv (bndK l k)] ∧ tabI p q l S')
    (fun c k S' => False)
    (fun lp hlp k S2 S3 h hk => ⟨h.1.leO (hle.objNone hlp) hk, hk.box _ _ h.2.1, hk.box _ _ h.2.2.1, hk.box _ _ h.2.2.2.1, hk.box _ _ h.2.2.2.2.1, hk.box _ _ h.2.2.2.2.2⟩)
    (fun lp hlp c k S2 S3 h hk => h.elim) (fun k S h => h.2.2.2.2) ⟨hle, k3, k4, k10, htab⟩ ?_ ?_ ?_
  · have hle0 := hle
    clear hle k3 k4 k10 htab hw hn1
    rintro lp k' x S3 o hlp hx ⟨hle, k3, k4, k10, htab⟩ ho
    obtain ⟨hk', rfl⟩ : ∃ hk : k' < l.length, x = [.one (uv (l[k'].1 : Nat)), .one (iv l[k'].2)] := by
      obtain ⟨p, hp, rfl⟩ := List.getElem?_map .. ▸ (show (l.map _)[k']? = some x from hx) |> Option.map_eq_some_iff.1
      obtain ⟨hk, rfl⟩ := List.getElem?_eq_some_iff.1 hp
      exact ⟨hk, rfl⟩
    repeat (first | refine LOps.nil ?_ | refine andThen_normal ?_ | refine andThen_exit ?_ | refine andThen_ret ?_ | refine inBlock_normal ?_ | refine inBlock_ret ?_ | refine inBlock_here ?_ | refine inBlock_out rfl ?_ | refine LWp.seq ?_ | refine LWp.region ?_ | refine LWp.block ?_ | refine LWp.exit ?_ | refine LWp.ret ?_ | refine LWp.skip ?_ | refine LOps.valA ?_ | refine LOps.outA ?_ | refine LOps.whenA ?_ | refine LOps.pickA ?_ | refine LOps.storeA ?_)
    refine ⟨rfl, ho, fun o' => ?_⟩
    refine LWp.gen (fun S' => S'.obj lp = some o' ∧ S.le S' ∧ S'.box b3 = some [.v (.pointer (some ⟨w, 0, none⟩))] ∧ S'.box b4 = some [bv false] ∧ S'.box b10 = some [iv (bndK l k')] ∧ tabI p q l S') ⟨setObj_obj _ _ _, hle.leO (hle0.objNone hlp) (.setObj _ _ _), k3, k4, k10, htab⟩ ?_
    clear hle k3 k4 k10 htab ho
    rintro S4 ⟨ho, hle, k3, k4, k10, htab⟩
    have c2 := rfrom_L hP (hr.le hle) (bndK l k')
    rw [bndK_from ks (Nat.le_of_lt hk'), List.getElem?_eq_getElem hk'] at c2
    have ew : IntKind.i64.wrap ((l[k'].1 : Nat) : Int) = ((l[k'].1 : Nat) : Int) := wrap64_small (by have := ks.lt _ (List.getElem_mem hk'); omega)
    have h256 := ks.lt _ (List.getElem_mem hk')
    repeat (first | refine LOps.valH (r := .tup [.one (uv (l[k'].1 : Nat)), .one (iv l[k'].2), .one (bv true)]) (LVal.callS c2 (by rw [hP]; exact Try.func16) rfl rfl rfl (by decide)) ?_ | refine LOps.nil ?_ | refine andThen_normal ?_ | refine andThen_exit ?_ | refine andThen_ret ?_ | refine inBlock_normal ?_ | refine inBlock_ret ?_ | refine inBlock_here ?_ | refine inBlock_out rfl ?_ | refine LWp.seq ?_ | refine LWp.region ?_ | refine LWp.block ?_ | refine LWp.exit ?_ | refine LWp.ret ?_ | refine LWp.skip ?_ | refine LOps.valA ?_ | refine LOps.outA ?_ | refine LOps.whenA ?_ | refine LOps.pickA ?_ | refine LOps.storeA ?_)
    refine LWp.cond rfl (fun h => ?_) (fun h => ?_)
    · exact absurd h (by simp)
    repeat (first | refine LOps.valH (r := .one (iv (l[k'].1 : Nat))) (LVal.to (LVal.convInt hD rfl rfl rfl rfl rfl) (by rw [ew])) ?_ | refine LOps.valH (r := .one (iv (((l[k'].1 : Nat) : Int) + 1))) (LVal.add64 rfl rfl rfl (by omega)) ?_ | refine LOps.nil ?_ | refine andThen_normal ?_ | refine andThen_exit ?_ | refine andThen_ret ?_ | refine inBlock_normal ?_ | refine inBlock_ret ?_ | refine inBlock_here ?_ | refine inBlock_out rfl ?_ | refine LWp.seq ?_ | refine LWp.region ?_ | refine LWp.block ?_ | refine LWp.exit ?_ | refine LWp.ret ?_ | refine LWp.skip ?_ | refine LOps.valA ?_ | refine LOps.outA ?_ | refine LOps.whenA ?_ | refine LOps.pickA ?_)
    refine LOps.do0 (LDo.store hD rfl rfl k10 rfl rfl rfl rfl) rfl rfl ?_
    rintro _ _ ⟨rfl, rfl⟩
    repeat (first | refine LOps.nil ?_ | refine andThen_normal ?_ | refine andThen_exit ?_ | refine andThen_ret ?_ | refine inBlock_normal ?_ | refine inBlock_ret ?_ | refine inBlock_here ?_ | refine inBlock_out rfl ?_ | refine LWp.seq ?_ | refine LWp.region ?_ | refine LWp.block ?_ | refine LWp.exit ?_ | refine LWp.ret ?_ | refine LWp.skip ?_ | refine LOps.valA ?_ | refine LOps.outA ?_ | refine LOps.whenA ?_ | refine LOps.pickA ?_ | refine LOps.storeA ?_)
    refine ⟨ho, hle.setBox s10 _, (box_set_ne _ _ n3_10).trans k3, (box_set_ne _ _ n4_10).trans k4, (box_set _ _ _).trans ?_, (box_set_ne _ _ np10.symm).trans htab.1, (box_set_ne _ _ nq10.symm).trans htab.2⟩
    simp only [bndK, List.getElem?_eq_getElem hk']; rfl
  · clear hle k3 k4 k10 htab hw hn1
    rintro S3 ⟨hle, k3, k4, k10, htab⟩
    rw [show (yieldsI l).length = l.length by simp [yieldsI]] at k10
    have c2 := rfrom_L hP (hr.le hle) (bndK l l.length)
    rw [bndK_from ks (Nat.le_refl _), List.getElem?_eq_none (Nat.le_refl _)] at c2
    repeat (first | refine LOps.valH (r := .tup [.one (uv 0), .one (iv 0), .one (bv false)]) (LVal.callS c2 (by rw [hP]; exact Try.func16) rfl rfl rfl (by decide)) ?_ | refine LOps.nil ?_ | refine andThen_normal ?_ | refine andThen_exit ?_ | refine andThen_ret ?_ | refine inBlock_normal ?_ | refine inBlock_ret ?_ | refine inBlock_here ?_ | refine inBlock_out rfl ?_ | refine LWp.seq ?_ | refine LWp.region ?_ | refine LWp.block ?_ | refine LWp.exit ?_ | refine LWp.ret ?_ | refine LWp.skip ?_ | refine LOps.valA ?_ | refine LOps.outA ?_ | refine LOps.whenA ?_ | refine LOps.pickA ?_ | refine LOps.storeA ?_)
    exact ⟨_, LRes.cell rfl (.cell rfl (box_set _ _ _) (hP ▸ tok4) rfl), rfl, hle.setBox s4 _⟩
  · rintro c k S' _ h
    exact h.elim
end Go.Proofs.Ytinbibeapooghaa.LF
