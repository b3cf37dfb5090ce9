/- The laws' own functions about the directory: acts, their bounds, what comes of them. -/
import Derived.Test.YtkjbdldjfjkneaaLDci
set_option linter.unusedVariables false
set_option linter.unusedSimpArgs false
namespace Go.Proofs.Ytkjbdldjfjkneaa.LF
open Go.RowKit
set_option linter.unusedVariables false

structure ActV where
  kind : Int
  i : Int
  n : Int
  at' : ByteArray
  los : List ByteArray
abbrev actL (a : ActV) : List LV := [uv a.kind, iv a.i, iv a.n, sv a.at', .sl .sh (a.los.map sL)]
abbrev noDir : Dv Int := ⟨[], []⟩
abbrev firstD : Dv Int := ⟨[noBytes], [0]⟩

def numsL (n : Nat) (x : Int) : List Int := (List.range n).map fun k : Nat => x + (k : Int)
theorem numsL_length (n : Nat) (x : Int) : (numsL n x).length = n := by simp [numsL]
theorem numsL_succ (n : Nat) (x : Int) : numsL (n + 1) x = numsL n x ++ [x + (n : Int)] := by simp [numsL, List.range_succ]

set_option maxHeartbeats 4000000 in
theorem numbers_F {G : Ctx} (hP : G.P = Try.prog) (n : Nat) (x : Int) (hn : n ≤ 1000) (hx : 0 ≤ x ∧ x ≤ 1000000) : LFun G 35 [.one (iv (n : Nat)), .one (iv x)] (.one (.sl .sh ((numsL n x).map iL))) := LFun.of fun S => by
  have hD : TabOK G.P D := by rw [hP]; exact hD0
  refine LCalls.enter (fn := Try.f35) (by rw [hP]; exact Try.func35) rfl rfl ?_
  repeat (first | refine LOps.nil ?_ | refine andThen_normal ?_ | refine andThen_exit ?_ | refine andThen_ret ?_ | refine inBlock_normal ?_ | refine inBlock_ret ?_ | refine inBlock_here ?_ | refine inBlock_out rfl ?_ | refine LWp.seq ?_ | refine LWp.region ?_ | refine LWp.block ?_ | refine LWp.exit ?_ | refine LWp.ret ?_ | refine LWp.skip ?_ | refine LOps.valA ?_ | refine LOps.outA ?_ | refine LOps.whenA ?_ | refine LOps.pickA ?_ | refine LOps.storeA ?_)
  refine LWp.loop (fun k T S' => ∃ T' j o, S.le S' ∧ j ≤ n ∧ k = n - j ∧ Owned S' 3 j o ∧ Out S o ∧ T = over T' [(0, .one (iv (n : Nat))), (1, .one (iv x)), (5, .one (.sl o ((numsL j x).map iL))), (6, .one (iv (j : Nat)))]) n ?_ ?_
  · exact ⟨_, 0, .nil, .refl _, by omega, rfl, rfl, .nil _, holds.over ⟨rfl, rfl, rfl, rfl, trivial⟩⟩
  rintro k T S1 ⟨T', j, o, hle, hj, rfl, own, hout, rfl⟩
  repeat (first | refine LOps.nil ?_ | refine andThen_normal ?_ | refine andThen_exit ?_ | refine andThen_ret ?_ | refine inBlock_normal ?_ | refine inBlock_ret ?_ | refine inBlock_here ?_ | refine inBlock_out rfl ?_ | refine LWp.seq ?_ | refine LWp.region ?_ | refine LWp.block ?_ | refine LWp.exit ?_ | refine LWp.ret ?_ | refine LWp.skip ?_ | refine LOps.valA ?_ | refine LOps.outA ?_ | refine LOps.whenA ?_ | refine LOps.pickA ?_ | refine LOps.storeA ?_)
  refine LWp.cond rfl (fun h => ?_) (fun h => ?_)
  · have hlt : j < n := by
      have h : decide ((j : Int) < (n : Int)) = true := h
      rw [decide_eq_true_iff] at h; omega
    repeat (first | refine LOps.nil ?_ | refine andThen_normal ?_ | refine andThen_exit ?_ | refine andThen_ret ?_ | refine inBlock_normal ?_ | refine inBlock_ret ?_ | refine inBlock_here ?_ | refine inBlock_out rfl ?_ | refine LWp.seq ?_ | refine LWp.region ?_ | refine LWp.block ?_ | refine LWp.exit ?_ | refine LWp.ret ?_ | refine LWp.skip ?_ | refine LOps.valA ?_ | refine LOps.outA ?_ | refine LOps.whenA ?_ | refine LOps.pickA ?_ | refine LOps.storeA ?_)
    refine LOps.do (LDo.push hD rfl rfl rfl rfl rfl rfl rfl rfl rfl rfl (show _ = j by rw [List.length_map, numsL_length]) own (by omega)) rfl rfl rfl ?_
    rintro _ S3 ⟨o3, rfl, own3, hup, hno⟩
    repeat (first | refine LOps.nil ?_ | refine andThen_normal ?_ | refine andThen_exit ?_ | refine andThen_ret ?_ | refine inBlock_normal ?_ | refine inBlock_ret ?_ | refine inBlock_here ?_ | refine inBlock_out rfl ?_ | refine LWp.seq ?_ | refine LWp.region ?_ | refine LWp.block ?_ | refine LWp.exit ?_ | refine LWp.ret ?_ | refine LWp.skip ?_ | refine LOps.valA ?_ | refine LOps.outA ?_ | refine LOps.whenA ?_ | refine LOps.pickA ?_ | refine LOps.storeA ?_)
    exact ⟨n - (j + 1), by omega, _, j + 1, o3, hle.upto hup hout, by omega, rfl, own3, hout.next hle hno, holds.over ⟨rfl, rfl, by rw [numsL_succ, List.map_append]; rfl, rfl, trivial⟩⟩
  · have hge : j = n := by
      have h : decide ((j : Int) < (n : Int)) = false := h
      rw [decide_eq_false_iff_not] at h; omega
    subst hge
    repeat (first | refine LOps.nil ?_ | refine andThen_normal ?_ | refine andThen_exit ?_ | refine andThen_ret ?_ | refine inBlock_normal ?_ | refine inBlock_ret ?_ | refine inBlock_here ?_ | refine inBlock_out rfl ?_ | refine LWp.seq ?_ | refine LWp.region ?_ | refine LWp.block ?_ | refine LWp.exit ?_ | refine LWp.ret ?_ | refine LWp.skip ?_ | refine LOps.valA ?_ | refine LOps.outA ?_ | refine LOps.whenA ?_ | refine LOps.pickA ?_ | refine LOps.storeA ?_)
    exact ⟨_, LRes.sh (LRes.one rfl), rfl, hle⟩

def okAct (a : ActV) : Bool := decide (a.at'.size ≤ 60) && decide (a.los.length ≤ 40) && a.los.all fun x => decide (x.size ≤ 60)
def greatA (l : List ActV) : Bool := decide (l.length > 100) || !(l.all okAct)

set_option maxHeartbeats 4000000 in
theorem great_F {G : Ctx} (hP : G.P = Try.prog) (l : List ActV) : LFun G 9 [.one (.sl .sh (l.map actL))] (.one (bv (greatA l))) := LFun.of fun S => by
  have hD : TabOK G.P D := by rw [hP]; exact hD0
  have hml : (l.map actL).length = l.length := List.length_map ..
  refine LCalls.enter (fn := Try.f9) (by rw [hP]; exact Try.func9) rfl rfl ?_
  repeat (first | refine LOps.nil ?_ | refine andThen_normal ?_ | refine andThen_exit ?_ | refine andThen_ret ?_ | refine inBlock_normal ?_ | refine inBlock_ret ?_ | refine inBlock_here ?_ | refine inBlock_out rfl ?_ | refine LWp.seq ?_ | refine LWp.region ?_ | refine LWp.block ?_ | refine LWp.exit ?_ | refine LWp.ret ?_ | refine LWp.skip ?_ | refine LOps.valA ?_ | refine LOps.outA ?_ | refine LOps.whenA ?_ | refine LOps.pickA ?_ | refine LOps.storeA ?_)
  refine LWp.cond rfl (fun h => ?_) (fun h => ?_)
  · have h : decide (((l.map actL).length : Int) > 100) = true := h
    rw [decide_eq_true_iff] at h
    have e : greatA l = true := by unfold greatA; rw [decide_eq_true (by omega), Bool.true_or]
    rw [e]
    repeat (first | refine LOps.nil ?_ | refine andThen_normal ?_ | refine andThen_exit ?_ | refine andThen_ret ?_ | refine inBlock_normal ?_ | refine inBlock_ret ?_ | refine inBlock_here ?_ | refine inBlock_out rfl ?_ | refine LWp.seq ?_ | refine LWp.region ?_ | refine LWp.block ?_ | refine LWp.exit ?_ | refine LWp.ret ?_ | refine LWp.skip ?_ | refine LOps.valA ?_ | refine LOps.outA ?_ | refine LOps.whenA ?_ | refine LOps.pickA ?_ | refine LOps.storeA ?_)
    exact ⟨_, LRes.one rfl, rfl, .refl _⟩
  have h : decide (((l.map actL).length : Int) > 100) = false := h
  rw [decide_eq_false_iff_not] at h
  have hl : l.length ≤ 100 := by omega
  have hg : greatA l = !(l.all okAct) := by unfold greatA; rw [decide_eq_false (by omega), Bool.false_or]
  rw [hg]
  clear h hg
  repeat (first | refine LOps.nil ?_ | refine andThen_normal ?_ | refine andThen_exit ?_ | refine andThen_ret ?_ | refine inBlock_normal ?_ | refine inBlock_ret ?_ | refine inBlock_here ?_ | refine inBlock_out rfl ?_ | refine LWp.seq ?_ | refine LWp.region ?_ | refine LWp.block ?_ | refine LWp.exit ?_ | refine LWp.ret ?_ | refine LWp.skip ?_ | refine LOps.valA ?_ | refine LOps.outA ?_ | refine LOps.whenA ?_ | refine LOps.pickA ?_ | refine LOps.storeA ?_)
  refine LWp.loop (fun k T S' => S' = S ∧ ∃ (T' : Nat → TV) (j : Nat), j ≤ l.length ∧ k = l.length - j ∧ (∀ (q : Nat) (hq : q < j) (hl : q < l.length), okAct l[q] = true) ∧ T = over T' [(0, .one (.sl .sh (l.map actL))), (3, .one (iv (j : Nat)))]) l.length ?_ ?_
  · exact ⟨rfl, _, 0, by omega, rfl, fun q hq => by omega, holds.over ⟨rfl, rfl, trivial⟩⟩
  rintro k T S1 ⟨rfl, T', j, hj, rfl, hall, rfl⟩
  repeat (first | refine LOps.nil ?_ | refine andThen_normal ?_ | refine andThen_exit ?_ | refine andThen_ret ?_ | refine inBlock_normal ?_ | refine inBlock_ret ?_ | refine inBlock_here ?_ | refine inBlock_out rfl ?_ | refine LWp.seq ?_ | refine LWp.region ?_ | refine LWp.block ?_ | refine LWp.exit ?_ | refine LWp.ret ?_ | refine LWp.skip ?_ | refine LOps.valA ?_ | refine LOps.outA ?_ | refine LOps.whenA ?_ | refine LOps.pickA ?_ | refine LOps.storeA ?_)
  refine LWp.cond rfl (fun h => ?_) (fun h => ?_)
  · have hlt : j < l.length := by
      have h : decide ((j : Int) < ((l.map actL).length : Int)) = true := h
      rw [decide_eq_true_iff] at h; omega
    have hma : (l[j].los.map sL).length = l[j].los.length := List.length_map ..
    have hbad : okAct l[j] = false → (!(l.all okAct)) = true := fun h => by
      rw [Bool.not_eq_true', List.all_eq_false]
      exact ⟨l[j], List.getElem_mem hlt, by rw [h]; simp⟩
    repeat (first | refine LOps.nil ?_ | refine andThen_normal ?_ | refine andThen_exit ?_ | refine andThen_ret ?_ | refine inBlock_normal ?_ | refine inBlock_ret ?_ | refine inBlock_here ?_ | refine inBlock_out rfl ?_ | refine LWp.seq ?_ | refine LWp.region ?_ | refine LWp.block ?_ | refine LWp.exit ?_ | refine LWp.ret ?_ | refine LWp.skip ?_ | refine LOps.valA ?_ | refine LOps.outA ?_ | refine LOps.whenA ?_ | refine LOps.pickA ?_ | refine LOps.storeA ?_)
    refine LWp.cond rfl (fun h => ?_) (fun h => ?_)
    · have h : (decide ((l[j].at'.size : Int) > 60) || decide (((l[j].los.map sL).length : Int) > 40)) = true := h
      rw [Bool.or_eq_true, decide_eq_true_iff, decide_eq_true_iff] at h
      have e := hbad (by
        unfold okAct
        rcases h with h | h
        · rw [decide_eq_false (by omega)]; simp
        · rw [decide_eq_false (p := l[j].los.length ≤ 40) (by omega)]; simp)
      rw [e]
      repeat (first | refine LOps.nil ?_ | refine andThen_normal ?_ | refine andThen_exit ?_ | refine andThen_ret ?_ | refine inBlock_normal ?_ | refine inBlock_ret ?_ | refine inBlock_here ?_ | refine inBlock_out rfl ?_ | refine LWp.seq ?_ | refine LWp.region ?_ | refine LWp.block ?_ | refine LWp.exit ?_ | refine LWp.ret ?_ | refine LWp.skip ?_ | refine LOps.valA ?_ | refine LOps.outA ?_ | refine LOps.whenA ?_ | refine LOps.pickA ?_ | refine LOps.storeA ?_)
      exact ⟨_, LRes.one rfl, rfl, .refl _⟩
    have h : (decide ((l[j].at'.size : Int) > 60) || decide (((l[j].los.map sL).length : Int) > 40)) = false := h
    rw [Bool.or_eq_false_iff, decide_eq_false_iff_not, decide_eq_false_iff_not] at h
    have h1 : l[j].at'.size ≤ 60 := by omega
    have h2 : l[j].los.length ≤ 40 := by omega
    clear h
    repeat (first | refine LOps.nil ?_ | refine andThen_normal ?_ | refine andThen_exit ?_ | refine andThen_ret ?_ | refine inBlock_normal ?_ | refine inBlock_ret ?_ | refine inBlock_here ?_ | refine inBlock_out rfl ?_ | refine LWp.seq ?_ | refine LWp.region ?_ | refine LWp.block ?_ | refine LWp.exit ?_ | refine LWp.ret ?_ | refine LWp.skip ?_ | refine LOps.valA ?_ | refine LOps.outA ?_ | refine LOps.whenA ?_ | refine LOps.pickA ?_ | refine LOps.storeA ?_)
    refine LWp.loop (fun k T S' => S' = S1 ∧ ∃ (T' : Nat → TV) (i : Nat), i ≤ l[j].los.length ∧ k = l[j].los.length - i ∧ (∀ (q : Nat) (hq : q < i) (hl : q < l[j].los.length), l[j].los[q].size ≤ 60) ∧ T = over T' [(0, .one (.sl .sh (l.map actL))), (3, .one (iv (j : Nat))), (4, .one (iv (i : Nat)))]) l[j].los.length ?_ ?_
    · exact ⟨rfl, _, 0, by omega, rfl, fun q hq => by omega, holds.over ⟨rfl, rfl, rfl, trivial⟩⟩
    rintro k T S1 ⟨rfl, T', i, hi, rfl, hall2, rfl⟩
    repeat (first | refine LOps.nil ?_ | refine andThen_normal ?_ | refine andThen_exit ?_ | refine andThen_ret ?_ | refine inBlock_normal ?_ | refine inBlock_ret ?_ | refine inBlock_here ?_ | refine inBlock_out rfl ?_ | refine LWp.seq ?_ | refine LWp.region ?_ | refine LWp.block ?_ | refine LWp.exit ?_ | refine LWp.ret ?_ | refine LWp.skip ?_ | refine LOps.valA ?_ | refine LOps.outA ?_ | refine LOps.whenA ?_ | refine LOps.pickA ?_ | refine LOps.storeA ?_)
    refine LWp.cond rfl (fun h => ?_) (fun h => ?_)
    · have hlt2 : i < l[j].los.length := by
        have h : decide ((i : Int) < ((l[j].los.map sL).length : Int)) = true := h
        rw [decide_eq_true_iff] at h; omega
      repeat (first | refine LOps.nil ?_ | refine andThen_normal ?_ | refine andThen_exit ?_ | refine andThen_ret ?_ | refine inBlock_normal ?_ | refine inBlock_ret ?_ | refine inBlock_here ?_ | refine inBlock_out rfl ?_ | refine LWp.seq ?_ | refine LWp.region ?_ | refine LWp.block ?_ | refine LWp.exit ?_ | refine LWp.ret ?_ | refine LWp.skip ?_ | refine LOps.valA ?_ | refine LOps.outA ?_ | refine LOps.whenA ?_ | refine LOps.pickA ?_ | refine LOps.storeA ?_)
      refine LWp.cond rfl (fun h => ?_) (fun h => ?_)
      · have h : decide ((l[j].los[i].size : Int) > 60) = true := h
        rw [decide_eq_true_iff] at h
        have e := hbad (by
          unfold okAct
          have : (l[j].los.all fun x => decide (x.size ≤ 60)) = false := by
            rw [List.all_eq_false]
            exact ⟨l[j].los[i], List.getElem_mem hlt2, by simp; omega⟩
          rw [this]; simp)
        rw [e]
        repeat (first | refine LOps.nil ?_ | refine andThen_normal ?_ | refine andThen_exit ?_ | refine andThen_ret ?_ | refine inBlock_normal ?_ | refine inBlock_ret ?_ | refine inBlock_here ?_ | refine inBlock_out rfl ?_ | refine LWp.seq ?_ | refine LWp.region ?_ | refine LWp.block ?_ | refine LWp.exit ?_ | refine LWp.ret ?_ | refine LWp.skip ?_ | refine LOps.valA ?_ | refine LOps.outA ?_ | refine LOps.whenA ?_ | refine LOps.pickA ?_ | refine LOps.storeA ?_)
        exact ⟨_, LRes.one rfl, rfl, .refl _⟩
      · have h : decide ((l[j].los[i].size : Int) > 60) = false := h
        rw [decide_eq_false_iff_not] at h
        repeat (first | refine LOps.nil ?_ | refine andThen_normal ?_ | refine andThen_exit ?_ | refine andThen_ret ?_ | refine inBlock_normal ?_ | refine inBlock_ret ?_ | refine inBlock_here ?_ | refine inBlock_out rfl ?_ | refine LWp.seq ?_ | refine LWp.region ?_ | refine LWp.block ?_ | refine LWp.exit ?_ | refine LWp.ret ?_ | refine LWp.skip ?_ | refine LOps.valA ?_ | refine LOps.outA ?_ | refine LOps.whenA ?_ | refine LOps.pickA ?_ | refine LOps.storeA ?_)
        refine ⟨l[j].los.length - (i + 1), by omega, rfl, _, i + 1, by omega, rfl, fun q hq hl => ?_, holds.over ⟨rfl, rfl, rfl, trivial⟩⟩
        rcases Nat.lt_or_ge q i with h3 | h3
        · exact hall2 q h3 hl
        · obtain rfl : q = i := by omega
          omega
    · have hge : i = l[j].los.length := by
        have h : decide ((i : Int) < ((l[j].los.map sL).length : Int)) = false := h
        rw [decide_eq_false_iff_not] at h; omega
      repeat (first | refine LOps.nil ?_ | refine andThen_normal ?_ | refine andThen_exit ?_ | refine andThen_ret ?_ | refine inBlock_normal ?_ | refine inBlock_ret ?_ | refine inBlock_here ?_ | refine inBlock_out rfl ?_ | refine LWp.seq ?_ | refine LWp.region ?_ | refine LWp.block ?_ | refine LWp.exit ?_ | refine LWp.ret ?_ | refine LWp.skip ?_ | refine LOps.valA ?_ | refine LOps.outA ?_ | refine LOps.whenA ?_ | refine LOps.pickA ?_ | refine LOps.storeA ?_)
      refine ⟨l.length - (j + 1), by omega, rfl, _, j + 1, by omega, rfl, fun q hq hl => ?_, holds.over ⟨rfl, rfl, trivial⟩⟩
      rcases Nat.lt_or_ge q j with h3 | h3
      · exact hall q h3 hl
      · obtain rfl : q = j := by omega
        unfold okAct
        rw [decide_eq_true h1, decide_eq_true h2, Bool.true_and, Bool.true_and, List.all_eq_true]
        intro x hx
        obtain ⟨m, hm, rfl⟩ := List.getElem_of_mem hx
        exact decide_eq_true (hall2 m (by omega) hm)
  · have hge : j = l.length := by
      have h : decide ((j : Int) < ((l.map actL).length : Int)) = false := h
      rw [decide_eq_false_iff_not] at h; omega
    have e : (!(l.all okAct)) = false := by
      rw [Bool.not_eq_false', List.all_eq_true]
      intro x hx
      obtain ⟨m, hm, rfl⟩ := List.getElem_of_mem hx
      exact hall m (by omega) hm
    rw [e]
    repeat (first | refine LOps.nil ?_ | refine andThen_normal ?_ | refine andThen_exit ?_ | refine andThen_ret ?_ | refine inBlock_normal ?_ | refine inBlock_ret ?_ | refine inBlock_here ?_ | refine inBlock_out rfl ?_ | refine LWp.seq ?_ | refine LWp.region ?_ | refine LWp.block ?_ | refine LWp.exit ?_ | refine LWp.ret ?_ | refine LWp.skip ?_ | refine LOps.valA ?_ | refine LOps.outA ?_ | refine LOps.whenA ?_ | refine LOps.pickA ?_ | refine LOps.storeA ?_)
    exact ⟨_, LRes.one rfl, rfl, .refl _⟩

/-- What an act does: the new one and an error's number. -/
def againD (d : Option (Dv Int)) (a : ActV) (x : Int) : Option (Dv Int) × Int :=
  if a.kind = 0 then splitDI d a.i a.at' x (x + 1)
  else if a.kind = 1 then mergeDI d a.i x
  else if a.kind = 2 then repDI d a.i a.n a.los (numsL a.los.length x)
  else (none, 1)

set_option maxHeartbeats 4000000 in
theorem again_F {G : Ctx} (hP : G.P = Try.prog) (d : Dv Int) (hd : d.wf) (a : ActV) (hk : 0 ≤ a.kind ∧ a.kind < 256) (ha : a.los.length ≤ 40) (x : Int) (hx : 0 ≤ x ∧ x ≤ 100000) :
    LFun G 12 [dTI (some d), .agg (actL a), .one (iv x)] (.tup [dTI (againD (some d) a x).1, .one (iv (againD (some d) a x).2)]) := LFun.of fun S => by
  have hD : TabOK G.P D := by rw [hP]; exact hD0
  have hdw : ∀ x, some d = some x → x.wf := fun x e => by injection e with e; rw [← e]; exact hd
  have hma : (a.los.map sL).length = a.los.length := List.length_map ..
  refine LCalls.enter (fn := Try.f12) (by rw [hP]; exact Try.func12) rfl rfl ?_
  repeat (first | refine LOps.nil ?_ | refine andThen_normal ?_ | refine andThen_exit ?_ | refine andThen_ret ?_ | refine inBlock_normal ?_ | refine inBlock_ret ?_ | refine inBlock_here ?_ | refine inBlock_out rfl ?_ | refine LWp.seq ?_ | refine LWp.region ?_ | refine LWp.block ?_ | refine LWp.exit ?_ | refine LWp.ret ?_ | refine LWp.skip ?_ | refine LOps.valA ?_ | refine LOps.outA ?_ | refine LOps.whenA ?_ | refine LOps.pickA ?_ | refine LOps.storeA ?_)
  refine LOps.do (LDo.box rfl rfl) rfl rfl rfl ?_
  rintro _ _ ⟨b4, hb4, rfl, rfl⟩
  have hle := (LS.le.refl S).newBox hb4 (actL a)
  by_cases k0 : a.kind = 0
  · have e : againD (some d) a x = splitDI (some d) a.i a.at' x (x + 1) := by simp only [againD, if_pos k0]
    rw [e]
    have hs := splitI_F hP (some d) hdw a.i a.at' x (x + 1)
    repeat (first | refine LOps.valH (LVal.call rfl rfl (by rw [hP]; exact Try.func30) rfl (by decide) (hs)) ?_ | refine LWp.condT rfl ?_ | refine LWp.condF rfl ?_ | refine LOps.valH (LVal.to (LVal.binOp hD rfl rfl rfl rfl) (r' := .one (.v (.bool true))) (congrArg (fun b => TV.one (.v (.bool b))) (by first | exact decide_eq_true (by omega) | (rw [beq_iff_eq]; omega) | (rw [bne_iff_ne]; omega)))) ?_ | refine LOps.valH (LVal.to (LVal.binOp hD rfl rfl rfl rfl) (r' := .one (.v (.bool false))) (congrArg (fun b => TV.one (.v (.bool b))) (by first | exact decide_eq_false (by omega) | (rw [beq_eq_false_iff_ne]; omega) | (rw [bne_eq_false_iff_eq]; omega)))) ?_ | refine LOps.valW ?_ | refine LOps.nil ?_ | refine andThen_normal ?_ | refine andThen_exit ?_ | refine andThen_ret ?_ | refine inBlock_normal ?_ | refine inBlock_ret ?_ | refine inBlock_here ?_ | refine inBlock_out rfl ?_ | refine LWp.seq ?_ | refine LWp.region ?_ | refine LWp.block ?_ | refine LWp.exit ?_ | refine LWp.ret ?_ | refine LWp.skip ?_ | refine LOps.val (LVal.call rfl rfl (by rw [hP]; exact Try.func30) rfl (by decide) (hs)) rfl rfl rfl ?_ | refine LOps.whenC (LVal.call rfl rfl (by rw [hP]; exact Try.func30) rfl (by decide) (hs)) ?_ | refine LOps.valA ?_ | refine LOps.outA ?_ | refine LOps.whenA ?_ | refine LOps.pickA ?_ | refine LOps.storeA ?_)
    exact ⟨_, LRes.two rfl, rfl, hle⟩
  by_cases k1 : a.kind = 1
  · have e : againD (some d) a x = mergeDI (some d) a.i x := by simp only [againD, if_neg k0, if_pos k1]
    rw [e]
    have hs := mergeI_F hP (some d) hdw a.i x
    repeat (first | refine LOps.valH (LVal.call rfl rfl (by rw [hP]; exact Try.func31) rfl (by decide) (hs)) ?_ | refine LWp.condT rfl ?_ | refine LWp.condF rfl ?_ | refine LOps.valH (LVal.to (LVal.binOp hD rfl rfl rfl rfl) (r' := .one (.v (.bool true))) (congrArg (fun b => TV.one (.v (.bool b))) (by first | exact decide_eq_true (by omega) | (rw [beq_iff_eq]; omega) | (rw [bne_iff_ne]; omega)))) ?_ | refine LOps.valH (LVal.to (LVal.binOp hD rfl rfl rfl rfl) (r' := .one (.v (.bool false))) (congrArg (fun b => TV.one (.v (.bool b))) (by first | exact decide_eq_false (by omega) | (rw [beq_eq_false_iff_ne]; omega) | (rw [bne_eq_false_iff_eq]; omega)))) ?_ | refine LOps.valW ?_ | refine LOps.nil ?_ | refine andThen_normal ?_ | refine andThen_exit ?_ | refine andThen_ret ?_ | refine inBlock_normal ?_ | refine inBlock_ret ?_ | refine inBlock_here ?_ | refine inBlock_out rfl ?_ | refine LWp.seq ?_ | refine LWp.region ?_ | refine LWp.block ?_ | refine LWp.exit ?_ | refine LWp.ret ?_ | refine LWp.skip ?_ | refine LOps.val (LVal.call rfl rfl (by rw [hP]; exact Try.func31) rfl (by decide) (hs)) rfl rfl rfl ?_ | refine LOps.whenC (LVal.call rfl rfl (by rw [hP]; exact Try.func31) rfl (by decide) (hs)) ?_ | refine LOps.valA ?_ | refine LOps.outA ?_ | refine LOps.whenA ?_ | refine LOps.pickA ?_ | refine LOps.storeA ?_)
    exact ⟨_, LRes.two rfl, rfl, hle⟩
  by_cases k2 : a.kind = 2
  · have e : againD (some d) a x = repDI (some d) a.i a.n a.los (numsL a.los.length x) := by simp only [againD, if_neg k0, if_neg k1, if_pos k2]
    rw [e]
    have hn := numbers_F hP (a.los.map sL).length x (by omega) ⟨hx.1, by omega⟩
    have hs := replaceI_F hP (some d) hdw a.i a.n a.los (numsL (a.los.map sL).length x) (by omega) (by rw [numsL_length]; omega)
    rw [← hma]
    repeat (first | refine LWp.condT rfl ?_ | refine LWp.condF rfl ?_ | refine LOps.valH (LVal.to (LVal.binOp hD rfl rfl rfl rfl) (r' := .one (.v (.bool true))) (congrArg (fun b => TV.one (.v (.bool b))) (by first | exact decide_eq_true (by omega) | (rw [beq_iff_eq]; omega) | (rw [bne_iff_ne]; omega)))) ?_ | refine LOps.valH (LVal.to (LVal.binOp hD rfl rfl rfl rfl) (r' := .one (.v (.bool false))) (congrArg (fun b => TV.one (.v (.bool b))) (by first | exact decide_eq_false (by omega) | (rw [beq_eq_false_iff_ne]; omega) | (rw [bne_eq_false_iff_eq]; omega)))) ?_ | refine LOps.valW ?_ | refine LOps.nil ?_ | refine andThen_normal ?_ | refine andThen_exit ?_ | refine andThen_ret ?_ | refine inBlock_normal ?_ | refine inBlock_ret ?_ | refine inBlock_here ?_ | refine inBlock_out rfl ?_ | refine LWp.seq ?_ | refine LWp.region ?_ | refine LWp.block ?_ | refine LWp.exit ?_ | refine LWp.ret ?_ | refine LWp.skip ?_ | refine LOps.valA ?_ | refine LOps.outA ?_ | refine LOps.whenA ?_ | refine LOps.pickA ?_ | refine LOps.storeA ?_)
    refine LWp.drawL [0, 1, 2, 3, 4, 5, 6, 7, 8, 9, 10, 11, 12, 13, 14, 15, 16] (by rw [hP]; rfl) rfl ?_
    repeat (first | refine LRl.valC (fun _ => (LVal.call rfl rfl (by rw [hP]; exact Try.func35) rfl (by decide) (hn))) ?_ | refine LRl.valC (fun _ => (LVal.call rfl rfl (by rw [hP]; exact Try.func32) rfl (by decide) (hs))) ?_ | refine LRl.whenC (fun _ => (LVal.call rfl rfl (by rw [hP]; exact Try.func35) rfl (by decide) (hn))) ?_ | refine LRl.whenC (fun _ => (LVal.call rfl rfl (by rw [hP]; exact Try.func32) rfl (by decide) (hs))) ?_ | refine LRl.nil ?_ | refine LRl.valA ?_ | refine LRl.outA ?_ | refine LRl.whenA ?_ | refine LRl.pickA ?_)
    repeat (first | refine LOps.nil ?_ | refine andThen_normal ?_ | refine andThen_exit ?_ | refine andThen_ret ?_ | refine inBlock_normal ?_ | refine inBlock_ret ?_ | refine inBlock_here ?_ | refine inBlock_out rfl ?_ | refine LWp.seq ?_ | refine LWp.region ?_ | refine LWp.block ?_ | refine LWp.exit ?_ | refine LWp.ret ?_ | refine LWp.skip ?_ | refine LOps.valA ?_ | refine LOps.outA ?_ | refine LOps.whenA ?_ | refine LOps.pickA ?_ | refine LOps.storeA ?_)
    exact ⟨_, LRes.two rfl, rfl, hle⟩
  have e : againD (some d) a x = (none, 1) := by simp only [againD, if_neg k0, if_neg k1, if_neg k2]
  rw [e]
  repeat (first | refine LWp.condT rfl ?_ | refine LWp.condF rfl ?_ | refine LOps.valH (LVal.to (LVal.binOp hD rfl rfl rfl rfl) (r' := .one (.v (.bool true))) (congrArg (fun b => TV.one (.v (.bool b))) (by first | exact decide_eq_true (by omega) | (rw [beq_iff_eq]; omega) | (rw [bne_iff_ne]; omega)))) ?_ | refine LOps.valH (LVal.to (LVal.binOp hD rfl rfl rfl rfl) (r' := .one (.v (.bool false))) (congrArg (fun b => TV.one (.v (.bool b))) (by first | exact decide_eq_false (by omega) | (rw [beq_eq_false_iff_ne]; omega) | (rw [bne_eq_false_iff_eq]; omega)))) ?_ | refine LOps.valW ?_ | refine LOps.nil ?_ | refine andThen_normal ?_ | refine andThen_exit ?_ | refine andThen_ret ?_ | refine inBlock_normal ?_ | refine inBlock_ret ?_ | refine inBlock_here ?_ | refine inBlock_out rfl ?_ | refine LWp.seq ?_ | refine LWp.region ?_ | refine LWp.block ?_ | refine LWp.exit ?_ | refine LWp.ret ?_ | refine LWp.skip ?_ | refine LOps.valA ?_ | refine LOps.outA ?_ | refine LOps.whenA ?_ | refine LOps.pickA ?_ | refine LOps.storeA ?_)
  exact ⟨_, LRes.two rfl, rfl, hle⟩
end Go.Proofs.Ytkjbdldjfjkneaa.LF
