/- The B-link node's law: the walks of copied, pairs; the document's Get, Delete. -/
import Derived.Test.YtjcpcgneghanfaaLBp
set_option linter.unusedVariables false
set_option linter.unusedSimpArgs false
namespace Go.Proofs.Ytjcpcgneghanfaa.LF
open Go.RowKit
set_option linter.unusedVariables false

theorem LCalls.shR {G : Ctx} {f : FuncId} {args : List TV} {Q Q' : TV → LS → Prop} {S : LS} (h : LCalls G f args Q S) (hq : ∀ r S', Q r S' → Q' (shTV r) S') : LCalls G f args Q' S :=
  fun K w vals h1 h2 => (h K w vals h1 h2).mono fun e w' ⟨r, v, S', K', e1, e2, e3, e4, e5⟩ => ⟨shTV r, v, S', K', e1, e2.shTV, e3, e4, hq r S' e5⟩
def prL (p : Pr) : List LV := [sv p.key, sv p.val]
theorem prL_len (p : Pr) : (prL p).length = 2 := rfl
theorem cS (l : List ByteArray) : ∀ e ∈ l.map sL, e.length = 1 := fun e he => by
  obtain ⟨a, _, rfl⟩ := List.mem_map.1 he; rfl
theorem cH (l : List HdV) : ∀ e ∈ l.map hdL, e.length = 2 := fun e he => by
  obtain ⟨a, _, rfl⟩ := List.mem_map.1 he; rfl

set_option maxHeartbeats 4000000 in
theorem copied_L {G : Ctx} (hP : G.P = Try.prog) (n : NdV) (hn : n.ok) (S : LS) : LCalls G 23 [.agg (ndL n)] (fun r S' => ∃ o1 o2 o3, r = .agg (ndX n (.sl o1 (n.keys.map sL)) (.sl o2 (n.vals.map sL)) (.sl o3 (n.kids.map hdL))) ∧ S.le S') S := by
  have hD : TabOK G.P D := by rw [hP]; exact hD0
  have hnk := hn.keys
  have hnv := hn.vals
  have hnh := hn.kids
  have mk : (n.keys.map sL).length = n.keys.length := List.length_map ..
  have mv : (n.vals.map sL).length = n.vals.length := List.length_map ..
  have mh : (n.kids.map hdL).length = n.kids.length := List.length_map ..
  refine LCalls.enter (fn := Try.f23) (by rw [hP]; exact Try.func23) rfl rfl ?_
  repeat (first | refine LOps.nil ?_ | refine andThen_normal ?_ | refine andThen_exit ?_ | refine andThen_ret ?_ | refine inBlock_normal ?_ | refine inBlock_ret ?_ | refine inBlock_here ?_ | refine inBlock_out rfl ?_ | refine LWp.seq ?_ | refine LWp.region ?_ | refine LWp.block ?_ | refine LWp.exit ?_ | refine LWp.ret ?_ | refine LWp.skip ?_ | refine LOps.valA ?_ | refine LOps.outA ?_ | refine LOps.whenA ?_ | refine LOps.pickA ?_ | refine LOps.storeA ?_)
  have hle := LS.le.refl S
  refine LOps.do (LDo.box rfl rfl) rfl rfl rfl ?_
  rintro _ _ ⟨b1, hb1, rfl, rfl⟩
  have s1 := hle.none hb1
  refine LOps.gen (fun S' => S.le S' ∧ S'.box b1 = some (ndL n)) ⟨hle.newBox hb1 _, box_new _ _ _⟩ ?_
  clear hle hb1 
  rintro S1 ⟨hle, k1⟩
  skip
  refine LOps.do (LDo.alloc hD rfl rfl rfl) rfl rfl rfl ?_
  rintro _ _ ⟨b2, hb2, rfl, rfl⟩
  have n1_2 := fresh_ne hb2 k1
  have m2_1 := n1_2.symm
  have s2 := hle.none hb2
  refine LOps.gen (fun S' => S.le S' ∧ S'.box b1 = some (ndL n) ∧ S'.box b2 = some (ndX noNd (.sl .nil []) (.sl .nil []) (.sl .nil []))) ⟨hle.newBox hb2 _, (box_new_ne _ _ n1_2).trans k1, box_new _ _ _⟩ ?_
  clear hle hb2 k1
  rintro S2 ⟨hle, k1, k2⟩
  repeat (first | refine LOps.nil ?_ | refine andThen_normal ?_ | refine andThen_exit ?_ | refine andThen_ret ?_ | refine inBlock_normal ?_ | refine inBlock_ret ?_ | refine inBlock_here ?_ | refine inBlock_out rfl ?_ | refine LWp.seq ?_ | refine LWp.region ?_ | refine LWp.block ?_ | refine LWp.exit ?_ | refine LWp.ret ?_ | refine LWp.skip ?_ | refine LOps.valA ?_ | refine LOps.outA ?_ | refine LOps.whenA ?_ | refine LOps.pickA ?_ | refine LOps.storeA ?_)
  refine LOps.do (LDo.emptySlice hD rfl rfl rfl rfl rfl rfl rfl) rfl rfl rfl ?_
  rintro _ _ ⟨r1, hr1, rfl, rfl⟩
  repeat (first | refine LOps.valH (LVal.load hD rfl rfl k1 rfl rfl) ?_ | refine LOps.nil ?_ | refine andThen_normal ?_ | refine andThen_exit ?_ | refine andThen_ret ?_ | refine inBlock_normal ?_ | refine inBlock_ret ?_ | refine inBlock_here ?_ | refine inBlock_out rfl ?_ | refine LWp.seq ?_ | refine LWp.region ?_ | refine LWp.block ?_ | refine LWp.exit ?_ | refine LWp.ret ?_ | refine LWp.skip ?_ | refine LOps.valA ?_ | refine LOps.outA ?_ | refine LOps.whenA ?_ | refine LOps.pickA ?_)
  refine LOps.do (LDo.appendN hD rfl rfl rfl rfl rfl rfl rfl rfl rfl (show [].length = 0 from rfl) mk (.new _ _ _ _) (cS _) (by omega)) rfl rfl rfl ?_
  rintro _ S3 ⟨o1, rfl, _, hup, _⟩
  have hle3 := (hle.newRow hr1 _ _).upto hup (.fresh hle hr1)
  have k13 := hup.box _ _ k1
  have k23 := hup.box _ _ k2
  repeat (first | refine LOps.nil ?_ | refine andThen_normal ?_ | refine andThen_exit ?_ | refine andThen_ret ?_ | refine inBlock_normal ?_ | refine inBlock_ret ?_ | refine inBlock_here ?_ | refine inBlock_out rfl ?_ | refine LWp.seq ?_ | refine LWp.region ?_ | refine LWp.block ?_ | refine LWp.exit ?_ | refine LWp.ret ?_ | refine LWp.skip ?_ | refine LOps.valA ?_ | refine LOps.outA ?_ | refine LOps.whenA ?_ | refine LOps.pickA ?_)
  refine LOps.storeA (b := b1) (off := 1) (cs := ndL n) (l := [.sl o1 (n.keys.map sL)]) ?_
  refine LOps.gen (fun S' => S.le S' ∧ S'.box b1 = some (ndX n (.sl o1 (n.keys.map sL)) (.sl .sh (n.vals.map sL)) (.sl .sh (n.kids.map hdL))) ∧ S'.box b2 = some (ndX noNd (.sl .nil []) (.sl .nil []) (.sl .nil []))) ⟨hle3.setBox s1 _, box_set _ _ _, (box_set_ne _ _ n1_2.symm).trans k23⟩ ?_
  clear hle hle3 k1 k2 k13 k23 hup hr1
  rintro S4 ⟨hle, k1, k2⟩
  repeat (first | refine LOps.nil ?_ | refine andThen_normal ?_ | refine andThen_exit ?_ | refine andThen_ret ?_ | refine inBlock_normal ?_ | refine inBlock_ret ?_ | refine inBlock_here ?_ | refine inBlock_out rfl ?_ | refine LWp.seq ?_ | refine LWp.region ?_ | refine LWp.block ?_ | refine LWp.exit ?_ | refine LWp.ret ?_ | refine LWp.skip ?_ | refine LOps.valA ?_ | refine LOps.outA ?_ | refine LOps.whenA ?_ | refine LOps.pickA ?_ | refine LOps.storeA ?_)
  refine LOps.do (LDo.emptySlice hD rfl rfl rfl rfl rfl rfl rfl) rfl rfl rfl ?_
  rintro _ _ ⟨r1, hr1, rfl, rfl⟩
  repeat (first | refine LOps.valH (LVal.load hD rfl rfl k1 rfl rfl) ?_ | refine LOps.nil ?_ | refine andThen_normal ?_ | refine andThen_exit ?_ | refine andThen_ret ?_ | refine inBlock_normal ?_ | refine inBlock_ret ?_ | refine inBlock_here ?_ | refine inBlock_out rfl ?_ | refine LWp.seq ?_ | refine LWp.region ?_ | refine LWp.block ?_ | refine LWp.exit ?_ | refine LWp.ret ?_ | refine LWp.skip ?_ | refine LOps.valA ?_ | refine LOps.outA ?_ | refine LOps.whenA ?_ | refine LOps.pickA ?_)
  refine LOps.do (LDo.appendN hD rfl rfl rfl rfl rfl rfl rfl rfl rfl (show [].length = 0 from rfl) mv (.new _ _ _ _) (cS _) (by omega)) rfl rfl rfl ?_
  rintro _ S3 ⟨o2, rfl, _, hup, _⟩
  have hle3 := (hle.newRow hr1 _ _).upto hup (.fresh hle hr1)
  have k13 := hup.box _ _ k1
  have k23 := hup.box _ _ k2
  repeat (first | refine LOps.nil ?_ | refine andThen_normal ?_ | refine andThen_exit ?_ | refine andThen_ret ?_ | refine inBlock_normal ?_ | refine inBlock_ret ?_ | refine inBlock_here ?_ | refine inBlock_out rfl ?_ | refine LWp.seq ?_ | refine LWp.region ?_ | refine LWp.block ?_ | refine LWp.exit ?_ | refine LWp.ret ?_ | refine LWp.skip ?_ | refine LOps.valA ?_ | refine LOps.outA ?_ | refine LOps.whenA ?_ | refine LOps.pickA ?_)
  refine LOps.storeA (b := b1) (off := 2) (cs := ndX n (.sl o1 (n.keys.map sL)) (.sl .sh (n.vals.map sL)) (.sl .sh (n.kids.map hdL))) (l := [.sl o2 (n.vals.map sL)]) ?_
  refine LOps.gen (fun S' => S.le S' ∧ S'.box b1 = some (ndX n (.sl o1 (n.keys.map sL)) (.sl o2 (n.vals.map sL)) (.sl .sh (n.kids.map hdL))) ∧ S'.box b2 = some (ndX noNd (.sl .nil []) (.sl .nil []) (.sl .nil []))) ⟨hle3.setBox s1 _, box_set _ _ _, (box_set_ne _ _ n1_2.symm).trans k23⟩ ?_
  clear hle hle3 k1 k2 k13 k23 hup hr1
  rintro S5 ⟨hle, k1, k2⟩
  repeat (first | refine LOps.nil ?_ | refine andThen_normal ?_ | refine andThen_exit ?_ | refine andThen_ret ?_ | refine inBlock_normal ?_ | refine inBlock_ret ?_ | refine inBlock_here ?_ | refine inBlock_out rfl ?_ | refine LWp.seq ?_ | refine LWp.region ?_ | refine LWp.block ?_ | refine LWp.exit ?_ | refine LWp.ret ?_ | refine LWp.skip ?_ | refine LOps.valA ?_ | refine LOps.outA ?_ | refine LOps.whenA ?_ | refine LOps.pickA ?_ | refine LOps.storeA ?_)
  refine LOps.do (LDo.emptySlice hD rfl rfl rfl rfl rfl rfl rfl) rfl rfl rfl ?_
  rintro _ _ ⟨r1, hr1, rfl, rfl⟩
  repeat (first | refine LOps.valH (LVal.load hD rfl rfl k1 rfl rfl) ?_ | refine LOps.nil ?_ | refine andThen_normal ?_ | refine andThen_exit ?_ | refine andThen_ret ?_ | refine inBlock_normal ?_ | refine inBlock_ret ?_ | refine inBlock_here ?_ | refine inBlock_out rfl ?_ | refine LWp.seq ?_ | refine LWp.region ?_ | refine LWp.block ?_ | refine LWp.exit ?_ | refine LWp.ret ?_ | refine LWp.skip ?_ | refine LOps.valA ?_ | refine LOps.outA ?_ | refine LOps.whenA ?_ | refine LOps.pickA ?_)
  refine LOps.do (LDo.appendN hD rfl rfl rfl rfl rfl rfl rfl rfl rfl (show [].length = 0 from rfl) mh (.new _ _ _ _) (cH _) (by omega)) rfl rfl rfl ?_
  rintro _ S3 ⟨o3, rfl, _, hup, _⟩
  have hle3 := (hle.newRow hr1 _ _).upto hup (.fresh hle hr1)
  have k13 := hup.box _ _ k1
  have k23 := hup.box _ _ k2
  repeat (first | refine LOps.nil ?_ | refine andThen_normal ?_ | refine andThen_exit ?_ | refine andThen_ret ?_ | refine inBlock_normal ?_ | refine inBlock_ret ?_ | refine inBlock_here ?_ | refine inBlock_out rfl ?_ | refine LWp.seq ?_ | refine LWp.region ?_ | refine LWp.block ?_ | refine LWp.exit ?_ | refine LWp.ret ?_ | refine LWp.skip ?_ | refine LOps.valA ?_ | refine LOps.outA ?_ | refine LOps.whenA ?_ | refine LOps.pickA ?_)
  refine LOps.storeA (b := b1) (off := 3) (cs := ndX n (.sl o1 (n.keys.map sL)) (.sl o2 (n.vals.map sL)) (.sl .sh (n.kids.map hdL))) (l := [.sl o3 (n.kids.map hdL)]) ?_
  refine LOps.gen (fun S' => S.le S' ∧ S'.box b1 = some (ndX n (.sl o1 (n.keys.map sL)) (.sl o2 (n.vals.map sL)) (.sl o3 (n.kids.map hdL))) ∧ S'.box b2 = some (ndX noNd (.sl .nil []) (.sl .nil []) (.sl .nil []))) ⟨hle3.setBox s1 _, box_set _ _ _, (box_set_ne _ _ n1_2.symm).trans k23⟩ ?_
  clear hle hle3 k1 k2 k13 k23 hup hr1
  rintro S6 ⟨hle, k1, k2⟩
  repeat (first | refine LOps.valH (LVal.load hD rfl rfl k1 rfl rfl) ?_ | refine LOps.nil ?_ | refine andThen_normal ?_ | refine andThen_exit ?_ | refine andThen_ret ?_ | refine inBlock_normal ?_ | refine inBlock_ret ?_ | refine inBlock_here ?_ | refine inBlock_out rfl ?_ | refine LWp.seq ?_ | refine LWp.region ?_ | refine LWp.block ?_ | refine LWp.exit ?_ | refine LWp.ret ?_ | refine LWp.skip ?_ | refine LOps.valA ?_ | refine LOps.outA ?_ | refine LOps.whenA ?_ | refine LOps.pickA ?_)
  refine LOps.storeA (b := b2) (off := 0) (cs := ndX noNd (.sl .nil []) (.sl .nil []) (.sl .nil [])) (l := ndX n (.sl o1 (n.keys.map sL)) (.sl o2 (n.vals.map sL)) (.sl o3 (n.kids.map hdL))) ?_
  repeat (first | refine LOps.nil ?_ | refine andThen_normal ?_ | refine andThen_exit ?_ | refine andThen_ret ?_ | refine inBlock_normal ?_ | refine inBlock_ret ?_ | refine inBlock_here ?_ | refine inBlock_out rfl ?_ | refine LWp.seq ?_ | refine LWp.region ?_ | refine LWp.block ?_ | refine LWp.exit ?_ | refine LWp.ret ?_ | refine LWp.skip ?_ | refine LOps.valA ?_ | refine LOps.outA ?_ | refine LOps.whenA ?_ | refine LOps.pickA ?_ | refine LOps.storeA ?_)
  exact ⟨_, ndRes (x := n) hP rfl rfl (box_set _ _ _), o1, o2, o3, rfl, hle.setBox s2 _⟩
theorem copied_F {G : Ctx} (hP : G.P = Try.prog) (n : NdV) (hn : n.ok) : LFun G 23 [.agg (ndL n)] (.agg (ndL n)) := LFun.of fun S =>
  (copied_L hP n hn S).shR fun r S' ⟨o1, o2, o3, e, h⟩ => ⟨by rw [e]; rfl, h⟩

def pairsN (n : NdV) : List Pr := List.zipWith Pr.mk n.keys n.vals
theorem pairsN_len (n : NdV) : (pairsN n).length = min n.keys.length n.vals.length := by unfold pairsN; simp
theorem pairsN_take {n : NdV} {j : Nat} (hk : j < n.keys.length) (hv : j < n.vals.length) : (pairsN n).take (j + 1) = (pairsN n).take j ++ [⟨n.keys[j], n.vals[j]⟩] := by
  rw [List.take_succ_eq_append_getElem (by rw [pairsN_len]; omega)]
  congr 1
  unfold pairsN; simp
set_option maxHeartbeats 4000000 in
theorem pairs_L {G : Ctx} (hP : G.P = Try.prog) (n : NdV) (hn : n.ok) (S : LS) : LCalls G 29 [.agg (ndL n)] (fun r S' => ∃ o, r = .one (.sl o ((pairsN n).map prL)) ∧ S.le S') S := by
  have hD : TabOK G.P D := by rw [hP]; exact hD0
  have hnk := hn.keys
  have mk : (n.keys.map sL).length = n.keys.length := List.length_map ..
  have mv : (n.vals.map sL).length = n.vals.length := List.length_map ..
  have hpl := pairsN_len n
  refine LCalls.enter (fn := Try.f29) (by rw [hP]; exact Try.func29) rfl rfl ?_
  repeat (first | refine LOps.nil ?_ | refine andThen_normal ?_ | refine andThen_exit ?_ | refine andThen_ret ?_ | refine inBlock_normal ?_ | refine inBlock_ret ?_ | refine inBlock_here ?_ | refine inBlock_out rfl ?_ | refine LWp.seq ?_ | refine LWp.region ?_ | refine LWp.block ?_ | refine LWp.exit ?_ | refine LWp.ret ?_ | refine LWp.skip ?_ | refine LOps.valA ?_ | refine LOps.outA ?_ | refine LOps.whenA ?_ | refine LOps.pickA ?_ | refine LOps.storeA ?_)
  have hle := LS.le.refl S
  refine LOps.do (LDo.box rfl rfl) rfl rfl rfl ?_
  rintro _ _ ⟨b1, hb1, rfl, rfl⟩
  have s1 := hle.none hb1
  refine LOps.gen (fun S' => S.le S' ∧ S'.box b1 = some (ndL n)) ⟨hle.newBox hb1 _, box_new _ _ _⟩ ?_
  clear hle hb1 
  rintro S1 ⟨hle, k1⟩
  repeat (first | refine LOps.nil ?_ | refine andThen_normal ?_ | refine andThen_exit ?_ | refine andThen_ret ?_ | refine inBlock_normal ?_ | refine inBlock_ret ?_ | refine inBlock_here ?_ | refine inBlock_out rfl ?_ | refine LWp.seq ?_ | refine LWp.region ?_ | refine LWp.block ?_ | refine LWp.exit ?_ | refine LWp.ret ?_ | refine LWp.skip ?_ | refine LOps.valA ?_ | refine LOps.outA ?_ | refine LOps.whenA ?_ | refine LOps.pickA ?_ | refine LOps.storeA ?_)
  refine LWp.loop (fun m T S' => ∃ (T' : Nat → TV) (j : Nat) (o : Own), j ≤ (pairsN n).length ∧ m = (pairsN n).length - j ∧ S.le S' ∧ S'.box b1 = some (ndL n) ∧ Owned S' 68 j o ∧ Out S o ∧ T = over T' [(1, ptr b1), (3, .one (.sl o (((pairsN n).take j).map prL))), (4, .one (iv (j : Nat)))]) (pairsN n).length ?_ ?_
  · exact ⟨_, 0, .nil, by omega, by omega, hle, k1, rfl, .nil _, holds.over ⟨rfl, rfl, rfl, trivial⟩⟩
  clear hle k1
  rintro m T S1 ⟨T', j, o, hj, rfl, hle, k1, hown, hout, rfl⟩
  repeat (first | refine LOps.nil ?_ | refine andThen_normal ?_ | refine andThen_exit ?_ | refine andThen_ret ?_ | refine inBlock_normal ?_ | refine inBlock_ret ?_ | refine inBlock_here ?_ | refine inBlock_out rfl ?_ | refine LWp.seq ?_ | refine LWp.region ?_ | refine LWp.block ?_ | refine LWp.exit ?_ | refine LWp.ret ?_ | refine LWp.skip ?_ | refine LOps.valA ?_ | refine LOps.outA ?_ | refine LOps.whenA ?_ | refine LOps.pickA ?_ | refine LOps.storeA ?_)
  refine LWp.cond rfl (fun h => ?_) (fun h => ?_)
  · have h : (decide ((j : Int) < ((n.keys.map sL).length : Int)) && decide ((j : Int) < ((n.vals.map sL).length : Int))) = true := h
    rw [Bool.and_eq_true, decide_eq_true_iff, decide_eq_true_iff, mk, mv] at h
    have h1 : j < n.keys.length := by omega
    have h2 : j < n.vals.length := by omega
    repeat (first | refine LOps.nil ?_ | refine andThen_normal ?_ | refine andThen_exit ?_ | refine andThen_ret ?_ | refine inBlock_normal ?_ | refine inBlock_ret ?_ | refine inBlock_here ?_ | refine inBlock_out rfl ?_ | refine LWp.seq ?_ | refine LWp.region ?_ | refine LWp.block ?_ | refine LWp.exit ?_ | refine LWp.ret ?_ | refine LWp.skip ?_ | refine LOps.valA ?_ | refine LOps.outA ?_ | refine LOps.whenA ?_ | refine LOps.pickA ?_ | refine LOps.storeA ?_)
    refine LWp.drawL [0, 1, 2, 3, 4, 5, 6, 7, 8, 9, 10, 11, 12, 13, 14] (by rw [hP]; rfl) rfl ?_
    repeat (first | refine LRl.valH (LVal.load hD rfl rfl k1 rfl rfl) ?_ (fun _ hS => LVal.load hD rfl rfl (hS.box _ _ k1 (by first | exact id | (intro hx; rcases hx with hx | hx <;> omega) | (intro hx; have hx2 : _ = _ := hx; omega) | (intro hx; exact absurd hx.1 (by decide)))) rfl rfl) | refine LRl.nil ?_ | refine LRl.valA ?_ | refine LRl.outA ?_ | refine LRl.whenA ?_ | refine LRl.pickA ?_)
    refine LRl.act (LDo.push hD rfl rfl rfl rfl rfl rfl rfl rfl rfl rfl (show _ = j by rw [List.length_map, List.length_take]; omega) hown (by omega)) rfl rfl rfl rfl (by rintro _ _ ⟨_, _, _, hup, _⟩; exact .inl (.upto hup)) ?_
    rintro _ S2 ⟨o', rfl, own2, hup, hno'⟩
    repeat (first | refine LRl.nil ?_ | refine LRl.valA ?_ | refine LRl.outA ?_ | refine LRl.whenA ?_ | refine LRl.pickA ?_)
    repeat (first | refine LOps.nil ?_ | refine andThen_normal ?_ | refine andThen_exit ?_ | refine andThen_ret ?_ | refine inBlock_normal ?_ | refine inBlock_ret ?_ | refine inBlock_here ?_ | refine inBlock_out rfl ?_ | refine LWp.seq ?_ | refine LWp.region ?_ | refine LWp.block ?_ | refine LWp.exit ?_ | refine LWp.ret ?_ | refine LWp.skip ?_ | refine LOps.valA ?_ | refine LOps.outA ?_ | refine LOps.whenA ?_ | refine LOps.pickA ?_ | refine LOps.storeA ?_)
    have e : ((pairsN n).take (j + 1)).map prL = ((pairsN n).take j).map prL ++ [prL ⟨n.keys[j], n.vals[j]⟩] := by rw [pairsN_take h1 h2, List.map_append]; rfl
    exact ⟨(pairsN n).length - (j + 1), by omega, _, j + 1, o', by omega, rfl, hle.upto hup hout, hup.box _ _ k1, own2, hout.next hle hno', holds.over ⟨rfl, by rw [e]; rfl, rfl, trivial⟩⟩
  · have h : (decide ((j : Int) < ((n.keys.map sL).length : Int)) && decide ((j : Int) < ((n.vals.map sL).length : Int))) = false := h
    rw [Bool.and_eq_false_iff, decide_eq_false_iff_not, decide_eq_false_iff_not, mk, mv] at h
    have hge : j = (pairsN n).length := by
      rcases h with h | h <;> omega
    subst hge
    rw [List.take_length]
    repeat (first | refine LOps.nil ?_ | refine andThen_normal ?_ | refine andThen_exit ?_ | refine andThen_ret ?_ | refine inBlock_normal ?_ | refine inBlock_ret ?_ | refine inBlock_here ?_ | refine inBlock_out rfl ?_ | refine LWp.seq ?_ | refine LWp.region ?_ | refine LWp.block ?_ | refine LWp.exit ?_ | refine LWp.ret ?_ | refine LWp.skip ?_ | refine LOps.valA ?_ | refine LOps.outA ?_ | refine LOps.whenA ?_ | refine LOps.pickA ?_ | refine LOps.storeA ?_)
    exact ⟨_, LRes.one rfl, o, rfl, hle⟩
theorem pairs_F {G : Ctx} (hP : G.P = Try.prog) (n : NdV) (hn : n.ok) : LFun G 29 [.agg (ndL n)] (.one (.sl .sh ((pairsN n).map prL))) := LFun.of fun S =>
  (pairs_L hP n hn S).shR fun r S' ⟨o, e, h⟩ => ⟨by rw [e]; rfl, h⟩

def findD (l : List Pr) (k : ByteArray) : Option ByteArray := (l.find? fun p => decide (p.key = k)).map Pr.val
theorem findD_yes {l : List Pr} {k : ByteArray} {j : Nat} (hj : j < l.length) (h : ∀ i (hi : i < j), (l[i]'(by omega)).key ≠ k) (e : l[j].key = k) : findD l k = some l[j].val := by
  unfold findD
  have : l.find? (fun p => decide (p.key = k)) = some l[j] := by
    rw [List.find?_eq_some_iff_getElem]
    refine ⟨by simpa using e, j, hj, rfl, fun i hi => ?_⟩
    simpa using h i hi
  rw [this]; rfl
theorem findD_no {l : List Pr} {k : ByteArray} (h : ∀ i (hi : i < l.length), l[i].key ≠ k) : findD l k = none := by
  unfold findD
  have : l.find? (fun p => decide (p.key = k)) = none := by
    rw [List.find?_eq_none]
    intro p hp
    obtain ⟨i, hi, rfl⟩ := List.getElem_of_mem hp
    simpa using h i hi
  rw [this]; rfl
theorem findD_srt {l : List Pr} (h : Srt l) (k : ByteArray) : findD l k = getP l k := by
  cases hf : l.find? (fun p => decide (p.key = k)) with
  | none =>
    unfold findD
    rw [hf]
    rw [List.find?_eq_none] at hf
    exact ((getP_none h k).2 fun p hp => by simpa using hf p hp).symm
  | some p =>
    unfold findD
    rw [hf]
    have hk : p.key = k := by simpa using List.find?_some hf
    exact ((mem_getP h k p.val).2 (by rw [← hk]; exact List.mem_of_find?_eq_some hf)).symm
theorem get_F {G : Ctx} (hP : G.P = Try.prog) (l : List Pr) (hl : l.length ≤ 100000) (k : ByteArray) : LFun G 28 [.one (.sl .sh (l.map prL)), .one (sv k)] (.tup [.one (sv ((findD l k).getD noBytes)), .one (bv (findD l k).isSome)]) := LFun.of fun S => by
  have hD : TabOK G.P D := by rw [hP]; exact hD0
  have ml : (l.map prL).length = l.length := List.length_map ..
  refine LCalls.enter (fn := Try.f28) (by rw [hP]; exact Try.func28) rfl rfl ?_
  repeat (first | refine LOps.nil ?_ | refine andThen_normal ?_ | refine andThen_exit ?_ | refine andThen_ret ?_ | refine inBlock_normal ?_ | refine inBlock_ret ?_ | refine inBlock_here ?_ | refine inBlock_out rfl ?_ | refine LWp.seq ?_ | refine LWp.region ?_ | refine LWp.block ?_ | refine LWp.exit ?_ | refine LWp.ret ?_ | refine LWp.skip ?_ | refine LOps.valA ?_ | refine LOps.outA ?_ | refine LOps.whenA ?_ | refine LOps.pickA ?_ | refine LOps.storeA ?_)
  refine LWp.loop (fun m T S' => S' = S ∧ ∃ (T' : Nat → TV) (j : Nat), j ≤ l.length ∧ m = l.length - j ∧ (∀ i (hi : i < j) (h : i < l.length), l[i].key ≠ k) ∧ T = over T' [(0, .one (.sl .sh (l.map prL))), (1, .one (sv k)), (6, .one (iv (j : Nat)))]) l.length ?_ ?_
  · exact ⟨rfl, _, 0, by omega, by omega, fun i hi => by omega, holds.over ⟨rfl, rfl, rfl, trivial⟩⟩
  rintro m T S' ⟨hS, T', j, hj, rfl, hno, rfl⟩
  replace hS := hS.symm
  subst hS
  repeat (first | refine LOps.nil ?_ | refine andThen_normal ?_ | refine andThen_exit ?_ | refine andThen_ret ?_ | refine inBlock_normal ?_ | refine inBlock_ret ?_ | refine inBlock_here ?_ | refine inBlock_out rfl ?_ | refine LWp.seq ?_ | refine LWp.region ?_ | refine LWp.block ?_ | refine LWp.exit ?_ | refine LWp.ret ?_ | refine LWp.skip ?_ | refine LOps.valA ?_ | refine LOps.outA ?_ | refine LOps.whenA ?_ | refine LOps.pickA ?_ | refine LOps.storeA ?_)
  refine LWp.cond rfl (fun h => ?_) (fun h => ?_)
  · have hlt : j < l.length := by simp at h; omega
    repeat (first | refine LOps.nil ?_ | refine andThen_normal ?_ | refine andThen_exit ?_ | refine andThen_ret ?_ | refine inBlock_normal ?_ | refine inBlock_ret ?_ | refine inBlock_here ?_ | refine inBlock_out rfl ?_ | refine LWp.seq ?_ | refine LWp.region ?_ | refine LWp.block ?_ | refine LWp.exit ?_ | refine LWp.ret ?_ | refine LWp.skip ?_ | refine LOps.valA ?_ | refine LOps.outA ?_ | refine LOps.whenA ?_ | refine LOps.pickA ?_ | refine LOps.storeA ?_)
    refine LWp.cond rfl (fun h2 => ?_) (fun h2 => ?_)
    · have h2 : decide (l[j].key = k) = true := h2
      have e := findD_yes hlt (fun i hi => hno i hi (by omega)) (by simpa using h2)
      repeat (first | refine LOps.nil ?_ | refine andThen_normal ?_ | refine andThen_exit ?_ | refine andThen_ret ?_ | refine inBlock_normal ?_ | refine inBlock_ret ?_ | refine inBlock_here ?_ | refine inBlock_out rfl ?_ | refine LWp.seq ?_ | refine LWp.region ?_ | refine LWp.block ?_ | refine LWp.exit ?_ | refine LWp.ret ?_ | refine LWp.skip ?_ | refine LOps.valA ?_ | refine LOps.outA ?_ | refine LOps.whenA ?_ | refine LOps.pickA ?_ | refine LOps.storeA ?_)
      exact ⟨_, LRes.two rfl, by rw [e]; rfl, .refl _⟩
    · have h2 : decide (l[j].key = k) = false := h2
      repeat (first | refine LOps.nil ?_ | refine andThen_normal ?_ | refine andThen_exit ?_ | refine andThen_ret ?_ | refine inBlock_normal ?_ | refine inBlock_ret ?_ | refine inBlock_here ?_ | refine inBlock_out rfl ?_ | refine LWp.seq ?_ | refine LWp.region ?_ | refine LWp.block ?_ | refine LWp.exit ?_ | refine LWp.ret ?_ | refine LWp.skip ?_ | refine LOps.valA ?_ | refine LOps.outA ?_ | refine LOps.whenA ?_ | refine LOps.pickA ?_ | refine LOps.storeA ?_)
      refine ⟨l.length - (j + 1), by omega, rfl, _, j + 1, by omega, rfl, fun i hi hil => ?_, holds.over ⟨rfl, rfl, rfl, trivial⟩⟩
      rcases Nat.lt_or_ge i j with h3 | h3
      · exact hno i h3 hil
      · obtain rfl : i = j := by omega
        simpa using h2
  · have hge : j = l.length := by simp at h; omega
    subst hge
    have e := findD_no (l := l) (k := k) fun i hi => hno i hi hi
    repeat (first | refine LOps.nil ?_ | refine andThen_normal ?_ | refine andThen_exit ?_ | refine andThen_ret ?_ | refine inBlock_normal ?_ | refine inBlock_ret ?_ | refine inBlock_here ?_ | refine inBlock_out rfl ?_ | refine LWp.seq ?_ | refine LWp.region ?_ | refine LWp.block ?_ | refine LWp.exit ?_ | refine LWp.ret ?_ | refine LWp.skip ?_ | refine LOps.valA ?_ | refine LOps.outA ?_ | refine LOps.whenA ?_ | refine LOps.pickA ?_ | refine LOps.storeA ?_)
    exact ⟨_, LRes.two rfl, by rw [e]; rfl, .refl _⟩

def dropD (l : List Pr) (k : ByteArray) : List Pr := l.filter fun p => !decide (p.key = k)
theorem dropD_take {l : List Pr} {k : ByteArray} {j : Nat} (h : j < l.length) : dropD (l.take (j + 1)) k = dropD (l.take j) k ++ (if l[j].key = k then [] else [l[j]]) := by
  unfold dropD
  rw [List.take_succ_eq_append_getElem h, List.filter_append]
  congr 1
  by_cases e : l[j].key = k <;> simp [e]
theorem dropD_len (l : List Pr) (k : ByteArray) (j : Nat) : (dropD (l.take j) k).length ≤ l.length := by
  have := List.length_filter_le (fun p : Pr => !decide (p.key = k)) (l.take j)
  rw [List.length_take] at this
  unfold dropD; omega
theorem dropD_srt {l : List Pr} (h : Srt l) (k : ByteArray) : dropD l k = dropP l k := by
  refine Srt.ext (l := dropD l k) (List.Pairwise.filter _ h) (h.drop k) fun p => ?_
  rw [mem_dropP h]
  unfold dropD
  rw [List.mem_filter]
  simp
set_option maxHeartbeats 4000000 in
theorem del_L {G : Ctx} (hP : G.P = Try.prog) (l : List Pr) (hl : l.length ≤ 100000) (k : ByteArray) (S : LS) : LCalls G 32 [.one (.sl .sh (l.map prL)), .one (sv k)] (fun r S' => ∃ o, r = .one (.sl o ((dropD l k).map prL)) ∧ S.le S') S := by
  have hD : TabOK G.P D := by rw [hP]; exact hD0
  have ml : (l.map prL).length = l.length := List.length_map ..
  refine LCalls.enter (fn := Try.f32) (by rw [hP]; exact Try.func32) rfl rfl ?_
  repeat (first | refine LOps.nil ?_ | refine andThen_normal ?_ | refine andThen_exit ?_ | refine andThen_ret ?_ | refine inBlock_normal ?_ | refine inBlock_ret ?_ | refine inBlock_here ?_ | refine inBlock_out rfl ?_ | refine LWp.seq ?_ | refine LWp.region ?_ | refine LWp.block ?_ | refine LWp.exit ?_ | refine LWp.ret ?_ | refine LWp.skip ?_ | refine LOps.valA ?_ | refine LOps.outA ?_ | refine LOps.whenA ?_ | refine LOps.pickA ?_ | refine LOps.storeA ?_)
  refine LWp.loop (fun m T S' => ∃ (T' : Nat → TV) (j : Nat) (o : Own), j ≤ l.length ∧ m = l.length - j ∧ S.le S' ∧ Owned S' 68 (dropD (l.take j) k).length o ∧ Out S o ∧ T = over T' [(0, .one (.sl .sh (l.map prL))), (1, .one (sv k)), (5, .one (.sl o ((dropD (l.take j) k).map prL))), (6, .one (iv (j : Nat)))]) l.length ?_ ?_
  · exact ⟨_, 0, .nil, by omega, by omega, .refl _, rfl, .nil _, holds.over ⟨rfl, rfl, rfl, rfl, trivial⟩⟩
  rintro m T S1 ⟨T', j, o, hj, rfl, hle, hown, hout, rfl⟩
  repeat (first | refine LOps.nil ?_ | refine andThen_normal ?_ | refine andThen_exit ?_ | refine andThen_ret ?_ | refine inBlock_normal ?_ | refine inBlock_ret ?_ | refine inBlock_here ?_ | refine inBlock_out rfl ?_ | refine LWp.seq ?_ | refine LWp.region ?_ | refine LWp.block ?_ | refine LWp.exit ?_ | refine LWp.ret ?_ | refine LWp.skip ?_ | refine LOps.valA ?_ | refine LOps.outA ?_ | refine LOps.whenA ?_ | refine LOps.pickA ?_ | refine LOps.storeA ?_)
  refine LWp.cond rfl (fun h => ?_) (fun h => ?_)
  · have hlt : j < l.length := by simp at h; omega
    have hlen := dropD_len l k j
    repeat (first | refine LOps.nil ?_ | refine andThen_normal ?_ | refine andThen_exit ?_ | refine andThen_ret ?_ | refine inBlock_normal ?_ | refine inBlock_ret ?_ | refine inBlock_here ?_ | refine inBlock_out rfl ?_ | refine LWp.seq ?_ | refine LWp.region ?_ | refine LWp.block ?_ | refine LWp.exit ?_ | refine LWp.ret ?_ | refine LWp.skip ?_ | refine LOps.valA ?_ | refine LOps.outA ?_ | refine LOps.whenA ?_ | refine LOps.pickA ?_ | refine LOps.storeA ?_)
    refine LWp.cond rfl (fun h2 => ?_) (fun h2 => ?_)
    · have h2 : (!decide (l[j].key = k)) = true := h2
      have hk : l[j].key ≠ k := by simpa using h2
      have e : dropD (l.take (j + 1)) k = dropD (l.take j) k ++ [l[j]] := by rw [dropD_take hlt, if_neg hk]
      repeat (first | refine LOps.nil ?_ | refine andThen_normal ?_ | refine andThen_exit ?_ | refine andThen_ret ?_ | refine inBlock_normal ?_ | refine inBlock_ret ?_ | refine inBlock_here ?_ | refine inBlock_out rfl ?_ | refine LWp.seq ?_ | refine LWp.region ?_ | refine LWp.block ?_ | refine LWp.exit ?_ | refine LWp.ret ?_ | refine LWp.skip ?_ | refine LOps.valA ?_ | refine LOps.outA ?_ | refine LOps.whenA ?_ | refine LOps.pickA ?_ | refine LOps.storeA ?_)
      refine LOps.do (LDo.push hD rfl rfl rfl rfl rfl rfl rfl rfl rfl rfl (show _ = (dropD (l.take j) k).length by simp) hown (by omega)) rfl rfl rfl ?_
      rintro _ S2 ⟨o', rfl, own2, hup, hno'⟩
      repeat (first | refine LOps.nil ?_ | refine andThen_normal ?_ | refine andThen_exit ?_ | refine andThen_ret ?_ | refine inBlock_normal ?_ | refine inBlock_ret ?_ | refine inBlock_here ?_ | refine inBlock_out rfl ?_ | refine LWp.seq ?_ | refine LWp.region ?_ | refine LWp.block ?_ | refine LWp.exit ?_ | refine LWp.ret ?_ | refine LWp.skip ?_ | refine LOps.valA ?_ | refine LOps.outA ?_ | refine LOps.whenA ?_ | refine LOps.pickA ?_ | refine LOps.storeA ?_)
      exact ⟨l.length - (j + 1), by omega, _, j + 1, o', by omega, rfl, hle.upto hup hout, by rw [e, List.length_append]; exact own2, hout.next hle hno', holds.over ⟨rfl, rfl, by rw [e, List.map_append]; rfl, rfl, trivial⟩⟩
    · have h2 : (!decide (l[j].key = k)) = false := h2
      have hk : l[j].key = k := by simpa using h2
      have e : dropD (l.take (j + 1)) k = dropD (l.take j) k := by rw [dropD_take hlt, if_pos hk, List.append_nil]
      repeat (first | refine LOps.nil ?_ | refine andThen_normal ?_ | refine andThen_exit ?_ | refine andThen_ret ?_ | refine inBlock_normal ?_ | refine inBlock_ret ?_ | refine inBlock_here ?_ | refine inBlock_out rfl ?_ | refine LWp.seq ?_ | refine LWp.region ?_ | refine LWp.block ?_ | refine LWp.exit ?_ | refine LWp.ret ?_ | refine LWp.skip ?_ | refine LOps.valA ?_ | refine LOps.outA ?_ | refine LOps.whenA ?_ | refine LOps.pickA ?_ | refine LOps.storeA ?_)
      exact ⟨l.length - (j + 1), by omega, _, j + 1, o, by omega, rfl, hle, by rw [e]; exact hown, hout, holds.over ⟨rfl, rfl, by rw [e]; rfl, rfl, trivial⟩⟩
  · have hge : j = l.length := by simp at h; omega
    subst hge
    rw [List.take_length]
    repeat (first | refine LOps.nil ?_ | refine andThen_normal ?_ | refine andThen_exit ?_ | refine andThen_ret ?_ | refine inBlock_normal ?_ | refine inBlock_ret ?_ | refine inBlock_here ?_ | refine inBlock_out rfl ?_ | refine LWp.seq ?_ | refine LWp.region ?_ | refine LWp.block ?_ | refine LWp.exit ?_ | refine LWp.ret ?_ | refine LWp.skip ?_ | refine LOps.valA ?_ | refine LOps.outA ?_ | refine LOps.whenA ?_ | refine LOps.pickA ?_ | refine LOps.storeA ?_)
    exact ⟨_, LRes.one rfl, o, rfl, hle⟩
theorem del_F {G : Ctx} (hP : G.P = Try.prog) (l : List Pr) (hl : l.length ≤ 100000) (k : ByteArray) : LFun G 32 [.one (.sl .sh (l.map prL)), .one (sv k)] (.one (.sl .sh ((dropD l k).map prL))) := LFun.of fun S =>
  (del_L hP l hl k S).shR fun r S' ⟨o, e, h⟩ => ⟨by rw [e]; rfl, h⟩
end Go.Proofs.Ytjcpcgneghanfaa.LF
