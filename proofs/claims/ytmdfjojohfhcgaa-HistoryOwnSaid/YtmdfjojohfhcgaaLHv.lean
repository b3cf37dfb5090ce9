/- The walk of the law 'HistoryOwn'. -/
import Derived.Test.YtmdfjojohfhcgaaLHu
import Derived.Test.YtmdfjojohfhcgaaLHh
set_option linter.unusedVariables false
set_option linter.unusedSimpArgs false
namespace Go.Proofs.Ytmdfjojohfhcgaa.LF
open Go.RowKit
set_option linter.unusedVariables false
attribute [local irreducible] andThen inBlock LWp LOps LCalls

set_option maxHeartbeats 16000000 in
theorem own_L {G : Ctx} (hP : G.P = Try.prog) (l : List Ev) (S : LS) :
    LCalls G 4 [.one (.sl .sh (l.map evL))] (fun r _ => r = .one (bv true)) S := .sound fun hs => by
  have hD : TabOK G.P D := by rw [hP]; exact hD0
  have hwf := hs.wf
  refine LCalls.enter (fn := Try.f4) (by rw [hP]; exact Try.func4) rfl rfl ?_
  repeat (first | refine LOps.nil ?_ | refine andThen_normal ?_ | refine andThen_exit ?_ | refine andThen_ret ?_ | refine inBlock_normal ?_ | refine inBlock_ret ?_ | refine inBlock_here ?_ | refine inBlock_out rfl ?_ | refine LWp.seq ?_ | refine LWp.region ?_ | refine LWp.block ?_ | refine LWp.exit ?_ | refine LWp.ret ?_ | refine LWp.skip ?_ | refine LOps.val (LVal.call rfl rfl (by rw [hP]; exact Try.func8) rfl (by decide) (great_F hP l)) rfl rfl rfl ?_ | refine LOps.whenC (LVal.call rfl rfl (by rw [hP]; exact Try.func8) rfl (by decide) (great_F hP l)) ?_ | refine LOps.valA ?_ | refine LOps.outA ?_ | refine LOps.whenA ?_ | refine LOps.pickA ?_ | refine LOps.storeA ?_)
  refine LWp.cond rfl (fun h => ?_) (fun h => ?_)
  · repeat (first | refine LOps.nil ?_ | refine andThen_normal ?_ | refine andThen_exit ?_ | refine andThen_ret ?_ | refine inBlock_normal ?_ | refine inBlock_ret ?_ | refine inBlock_here ?_ | refine inBlock_out rfl ?_ | refine LWp.seq ?_ | refine LWp.region ?_ | refine LWp.block ?_ | refine LWp.exit ?_ | refine LWp.ret ?_ | refine LWp.skip ?_ | refine LOps.valA ?_ | refine LOps.outA ?_ | refine LOps.whenA ?_ | refine LOps.pickA ?_ | refine LOps.storeA ?_)
    refine LOps.do (LDo.callF (wakes_L hP _) (by rw [hP]; exact Try.func9)) rfl rfl rfl ?_
    rintro _ S1 ⟨rfl, _⟩
    repeat (first | refine LOps.nil ?_ | refine andThen_normal ?_ | refine andThen_exit ?_ | refine andThen_ret ?_ | refine inBlock_normal ?_ | refine inBlock_ret ?_ | refine inBlock_here ?_ | refine inBlock_out rfl ?_ | refine LWp.seq ?_ | refine LWp.region ?_ | refine LWp.block ?_ | refine LWp.exit ?_ | refine LWp.ret ?_ | refine LWp.skip ?_ | refine LOps.valA ?_ | refine LOps.outA ?_ | refine LOps.whenA ?_ | refine LOps.pickA ?_ | refine LOps.storeA ?_)
    exact ⟨_, LRes.one rfl, rfl⟩
  obtain ⟨hl, hlw⟩ := great_no h
  repeat (first | refine LOps.nil ?_ | refine andThen_normal ?_ | refine andThen_exit ?_ | refine andThen_ret ?_ | refine inBlock_normal ?_ | refine inBlock_ret ?_ | refine inBlock_here ?_ | refine inBlock_out rfl ?_ | refine LWp.seq ?_ | refine LWp.region ?_ | refine LWp.block ?_ | refine LWp.exit ?_ | refine LWp.ret ?_ | refine LWp.skip ?_ | refine LOps.valA ?_ | refine LOps.outA ?_ | refine LOps.whenA ?_ | refine LOps.pickA ?_ | refine LOps.storeA ?_)
  refine LOps.do (LDo.callF (new_L hP _) (by rw [hP]; exact Try.func10)) rfl rfl rfl ?_
  rintro _ S1 ⟨le1, b, rfl, _, H1⟩
  repeat (first | refine LWp.seq (LWp.cut 4 (fun T1 S1 => ∃ (T2 : Nat → TV) (F : Nat → Prop) (w : List Ev) (f : Int → Kn), OwB S S1 F b w f (3 * l.length) ∧ T1 = over T2 [(3, ptr b)]) rfl ?_ ?_) | refine LOps.nil ?_ | refine andThen_normal ?_ | refine andThen_exit ?_ | refine andThen_ret ?_ | refine inBlock_normal ?_ | refine inBlock_ret ?_ | refine inBlock_here ?_ | refine inBlock_out rfl ?_ | refine LWp.seq ?_ | refine LWp.region ?_ | refine LWp.block ?_ | refine LWp.exit ?_ | refine LWp.ret ?_ | refine LWp.skip ?_ | refine LOps.valA ?_ | refine LOps.outA ?_ | refine LOps.whenA ?_ | refine LOps.pickA ?_ | refine LOps.storeA ?_)
  · repeat (first | refine LOps.nil ?_ | refine andThen_normal ?_ | refine andThen_exit ?_ | refine andThen_ret ?_ | refine inBlock_normal ?_ | refine inBlock_ret ?_ | refine inBlock_here ?_ | refine inBlock_out rfl ?_ | refine LWp.seq ?_ | refine LWp.region ?_ | refine LWp.block ?_ | refine LWp.exit ?_ | refine LWp.ret ?_ | refine LWp.skip ?_ | refine LOps.valA ?_ | refine LOps.outA ?_ | refine LOps.whenA ?_ | refine LOps.pickA ?_ | refine LOps.storeA ?_)
    refine LWp.loop (fun k T S' => ∃ T' j F w f, j ≤ l.length ∧ k = l.length - j ∧ OwB S S' F b w f (3 * j) ∧ T = over T' [(0, .one (.sl .sh (l.map evL))), (3, ptr b), (4, .one (iv (j : Nat)))]) l.length ?_ ?_
    · exact ⟨_, 0, _, [], _, by omega, by omega, ⟨le1, fun x hx => hx.1, H1, rfl, by simp, by simp⟩, holds.over ⟨rfl, rfl, rfl, trivial⟩⟩
    clear H1 le1 S1
    rintro k T S' ⟨T', j, F, w, f, hj, rfl, hB, rfl⟩
    repeat (first | refine LOps.nil ?_ | refine andThen_normal ?_ | refine andThen_exit ?_ | refine andThen_ret ?_ | refine inBlock_normal ?_ | refine inBlock_ret ?_ | refine inBlock_here ?_ | refine inBlock_out rfl ?_ | refine LWp.seq ?_ | refine LWp.region ?_ | refine LWp.block ?_ | refine LWp.exit ?_ | refine LWp.ret ?_ | refine LWp.skip ?_ | refine LOps.valA ?_ | refine LOps.outA ?_ | refine LOps.whenA ?_ | refine LOps.pickA ?_ | refine LOps.storeA ?_)
    refine LWp.cond rfl (fun h => ?_) (fun h => ?_)
    · have hlt : j < l.length := by simpa using h
      have hxw := hlw _ (List.getElem_mem hlt)
      have hlen := hB.len
      repeat (first | refine LWp.seq (LWp.cut 7 (fun T1 S1 => ∃ (T2 : Nat → TV) (F : Nat → Prop) (w : List Ev) (f : Int → Kn), OwB S S1 F b w f (3 * j + 3) ∧ T1 = over T2 [(0, .one (.sl .sh (l.map evL))), (3, ptr b), (4, .one (iv (j : Nat)))]) rfl ?_ ?_) | refine LOps.nil ?_ | refine andThen_normal ?_ | refine andThen_exit ?_ | refine andThen_ret ?_ | refine inBlock_normal ?_ | refine inBlock_ret ?_ | refine inBlock_here ?_ | refine inBlock_out rfl ?_ | refine LWp.seq ?_ | refine LWp.region ?_ | refine LWp.block ?_ | refine LWp.exit ?_ | refine LWp.ret ?_ | refine LWp.skip ?_ | refine LOps.valA ?_ | refine LOps.outA ?_ | refine LOps.whenA ?_ | refine LOps.pickA ?_ | refine LOps.storeA ?_)
      · repeat (first | refine LOps.nil ?_ | refine andThen_normal ?_ | refine andThen_exit ?_ | refine andThen_ret ?_ | refine inBlock_normal ?_ | refine inBlock_ret ?_ | refine inBlock_here ?_ | refine inBlock_out rfl ?_ | refine LWp.seq ?_ | refine LWp.region ?_ | refine LWp.block ?_ | refine LWp.exit ?_ | refine LWp.ret ?_ | refine LWp.skip ?_ | refine LOps.valA ?_ | refine LOps.outA ?_ | refine LOps.whenA ?_ | refine LOps.pickA ?_ | refine LOps.storeA ?_)
        refine LWp.drawL [0, 1, 2, 3, 4, 5, 6, 7, 8, 9, 10, 11] (by rw [hP]; rfl) rfl ?_
        repeat (first | refine LRl.nil ?_ | refine LRl.valA ?_ | refine LRl.outA ?_ | refine LRl.whenA ?_ | refine LRl.pickA ?_)
        refine LRl.act (LDo.callF (begin_L hP l[j].id l[j].op (by omega) F b w f (by omega) S' hB.hist) (by rw [hP]; exact Try.func11)) rfl rfl rfl rfl (fun _ _ _ => .inr rfl) ?_
        intro r S2 hp
        obtain ⟨F, w, f, hB⟩ := hB.put hwf (by exact hxw) hp
        clear hp hlen
        have hlen := hB.len
        repeat (first | refine LRl.nil ?_ | refine LRl.valA ?_ | refine LRl.outA ?_ | refine LRl.whenA ?_ | refine LRl.pickA ?_)
        repeat (first | refine LWp.seq (LWp.cut 8 (fun T1 S1 => ∃ (T2 : Nat → TV) (F : Nat → Prop) (w : List Ev) (f : Int → Kn), OwB S S1 F b w f (3 * j + 2) ∧ T1 = over T2 [(0, .one (.sl .sh (l.map evL))), (3, ptr b), (4, .one (iv (j : Nat)))]) rfl ?_ ?_) | refine LOps.nil ?_ | refine andThen_normal ?_ | refine andThen_exit ?_ | refine andThen_ret ?_ | refine inBlock_normal ?_ | refine inBlock_ret ?_ | refine inBlock_here ?_ | refine inBlock_out rfl ?_ | refine LWp.seq ?_ | refine LWp.region ?_ | refine LWp.block ?_ | refine LWp.exit ?_ | refine LWp.ret ?_ | refine LWp.skip ?_ | refine LOps.valA ?_ | refine LOps.outA ?_ | refine LOps.whenA ?_ | refine LOps.pickA ?_ | refine LOps.storeA ?_)
        · repeat (first | refine LOps.nil ?_ | refine andThen_normal ?_ | refine andThen_exit ?_ | refine andThen_ret ?_ | refine inBlock_normal ?_ | refine inBlock_ret ?_ | refine inBlock_here ?_ | refine inBlock_out rfl ?_ | refine LWp.seq ?_ | refine LWp.region ?_ | refine LWp.block ?_ | refine LWp.exit ?_ | refine LWp.ret ?_ | refine LWp.skip ?_ | refine LOps.valA ?_ | refine LOps.outA ?_ | refine LOps.whenA ?_ | refine LOps.pickA ?_ | refine LOps.storeA ?_)
          refine LWp.cond rfl (fun h => ?_) (fun h => ?_)
          · repeat (first | refine LOps.nil ?_ | refine andThen_normal ?_ | refine andThen_exit ?_ | refine andThen_ret ?_ | refine inBlock_normal ?_ | refine inBlock_ret ?_ | refine inBlock_here ?_ | refine inBlock_out rfl ?_ | refine LWp.seq ?_ | refine LWp.region ?_ | refine LWp.block ?_ | refine LWp.exit ?_ | refine LWp.ret ?_ | refine LWp.skip ?_ | refine LOps.valA ?_ | refine LOps.outA ?_ | refine LOps.whenA ?_ | refine LOps.pickA ?_ | refine LOps.storeA ?_)
            refine LWp.drawL [0, 1, 2, 3, 4, 5, 6, 7, 8, 9, 10, 11] (by rw [hP]; rfl) rfl ?_
            repeat (first | refine LRl.nil ?_ | refine LRl.valA ?_ | refine LRl.outA ?_ | refine LRl.whenA ?_ | refine LRl.pickA ?_)
            refine LRl.act (LDo.callF (mark_L hP l[j].id l[j].ans F b w f (by omega) S2 hB.hist) (by rw [hP]; exact Try.func12)) rfl rfl rfl rfl (fun _ _ _ => .inr rfl) ?_
            intro r S3 hp
            obtain ⟨F, w, f, hB⟩ := hB.put hwf (by exact Nat.zero_le _) hp
            repeat (first | refine LRl.nil ?_ | refine LRl.valA ?_ | refine LRl.outA ?_ | refine LRl.whenA ?_ | refine LRl.pickA ?_)
            repeat (first | refine LOps.nil ?_ | refine andThen_normal ?_ | refine andThen_exit ?_ | refine andThen_ret ?_ | refine inBlock_normal ?_ | refine inBlock_ret ?_ | refine inBlock_here ?_ | refine inBlock_out rfl ?_ | refine LWp.seq ?_ | refine LWp.region ?_ | refine LWp.block ?_ | refine LWp.exit ?_ | refine LWp.ret ?_ | refine LWp.skip ?_ | refine LOps.valA ?_ | refine LOps.outA ?_ | refine LOps.whenA ?_ | refine LOps.pickA ?_ | refine LOps.storeA ?_)
            exact ⟨_, F, w, f, hB, holds.over ⟨rfl, rfl, rfl, trivial⟩⟩
          · repeat (first | refine LOps.nil ?_ | refine andThen_normal ?_ | refine andThen_exit ?_ | refine andThen_ret ?_ | refine inBlock_normal ?_ | refine inBlock_ret ?_ | refine inBlock_here ?_ | refine inBlock_out rfl ?_ | refine LWp.seq ?_ | refine LWp.region ?_ | refine LWp.block ?_ | refine LWp.exit ?_ | refine LWp.ret ?_ | refine LWp.skip ?_ | refine LOps.valA ?_ | refine LOps.outA ?_ | refine LOps.whenA ?_ | refine LOps.pickA ?_ | refine LOps.storeA ?_)
            exact ⟨_, F, w, f, hB.more (by omega), holds.over ⟨rfl, rfl, rfl, trivial⟩⟩
        clear hB hlen
        rintro T1 S3 ⟨T2, F, w, f, hB, rfl⟩
        have hlen := hB.len
        repeat (first | refine LOps.nil ?_ | refine andThen_normal ?_ | refine andThen_exit ?_ | refine andThen_ret ?_ | refine inBlock_normal ?_ | refine inBlock_ret ?_ | refine inBlock_here ?_ | refine inBlock_out rfl ?_ | refine LWp.seq ?_ | refine LWp.region ?_ | refine LWp.block ?_ | refine LWp.exit ?_ | refine LWp.ret ?_ | refine LWp.skip ?_ | refine LOps.valA ?_ | refine LOps.outA ?_ | refine LOps.whenA ?_ | refine LOps.pickA ?_ | refine LOps.storeA ?_)
        refine LWp.cond rfl (fun h => ?_) (fun h => ?_)
        · repeat (first | refine LOps.nil ?_ | refine andThen_normal ?_ | refine andThen_exit ?_ | refine andThen_ret ?_ | refine inBlock_normal ?_ | refine inBlock_ret ?_ | refine inBlock_here ?_ | refine inBlock_out rfl ?_ | refine LWp.seq ?_ | refine LWp.region ?_ | refine LWp.block ?_ | refine LWp.exit ?_ | refine LWp.ret ?_ | refine LWp.skip ?_ | refine LOps.valA ?_ | refine LOps.outA ?_ | refine LOps.whenA ?_ | refine LOps.pickA ?_ | refine LOps.storeA ?_)
          refine LOps.do (LDo.callF (end_L hP l[j].id F b w f (by omega) S3 hB.hist) (by rw [hP]; exact Try.func13)) rfl rfl rfl ?_
          intro r S4 hp
          obtain ⟨F, w, f, hB⟩ := hB.put hwf (by exact Nat.zero_le _) hp
          repeat (first | refine LOps.nil ?_ | refine andThen_normal ?_ | refine andThen_exit ?_ | refine andThen_ret ?_ | refine inBlock_normal ?_ | refine inBlock_ret ?_ | refine inBlock_here ?_ | refine inBlock_out rfl ?_ | refine LWp.seq ?_ | refine LWp.region ?_ | refine LWp.block ?_ | refine LWp.exit ?_ | refine LWp.ret ?_ | refine LWp.skip ?_ | refine LOps.valA ?_ | refine LOps.outA ?_ | refine LOps.whenA ?_ | refine LOps.pickA ?_ | refine LOps.storeA ?_)
          exact ⟨_, F, w, f, hB, holds.over ⟨rfl, rfl, rfl, trivial⟩⟩
        · repeat (first | refine LOps.nil ?_ | refine andThen_normal ?_ | refine andThen_exit ?_ | refine andThen_ret ?_ | refine inBlock_normal ?_ | refine inBlock_ret ?_ | refine inBlock_here ?_ | refine inBlock_out rfl ?_ | refine LWp.seq ?_ | refine LWp.region ?_ | refine LWp.block ?_ | refine LWp.exit ?_ | refine LWp.ret ?_ | refine LWp.skip ?_ | refine LOps.valA ?_ | refine LOps.outA ?_ | refine LOps.whenA ?_ | refine LOps.pickA ?_ | refine LOps.storeA ?_)
          exact ⟨_, F, w, f, hB.more (by omega), holds.over ⟨rfl, rfl, rfl, trivial⟩⟩
      clear hB hlen
      rintro T1 S3 ⟨T2, F, w, f, hB, rfl⟩
      repeat (first | refine LOps.nil ?_ | refine andThen_normal ?_ | refine andThen_exit ?_ | refine andThen_ret ?_ | refine inBlock_normal ?_ | refine inBlock_ret ?_ | refine inBlock_here ?_ | refine inBlock_out rfl ?_ | refine LWp.seq ?_ | refine LWp.region ?_ | refine LWp.block ?_ | refine LWp.exit ?_ | refine LWp.ret ?_ | refine LWp.skip ?_ | refine LOps.valA ?_ | refine LOps.outA ?_ | refine LOps.whenA ?_ | refine LOps.pickA ?_ | refine LOps.storeA ?_)
      exact ⟨l.length - (j + 1), by omega, _, j + 1, F, w, f, by omega, rfl, hB.more (by omega), holds.over ⟨rfl, rfl, rfl, trivial⟩⟩
    · have hge : l.length ≤ j := by simpa using h
      repeat (first | refine LOps.nil ?_ | refine andThen_normal ?_ | refine andThen_exit ?_ | refine andThen_ret ?_ | refine inBlock_normal ?_ | refine inBlock_ret ?_ | refine inBlock_here ?_ | refine inBlock_out rfl ?_ | refine LWp.seq ?_ | refine LWp.region ?_ | refine LWp.block ?_ | refine LWp.exit ?_ | refine LWp.ret ?_ | refine LWp.skip ?_ | refine LOps.valA ?_ | refine LOps.outA ?_ | refine LOps.whenA ?_ | refine LOps.pickA ?_ | refine LOps.storeA ?_)
      exact ⟨_, F, w, f, hB.more (by omega), holds.over ⟨rfl, trivial⟩⟩
  clear H1 le1 S1
  rintro T1 S1 ⟨T2, F, w, f, hB, rfl⟩
  have hlen := hB.len
  have hws2 : ∀ e ∈ w, e.op.writes.length < 1000000 := fun e he => by have := hB.ws e he; omega
  have hws : ∀ e ∈ w, e.op.writes.length ≤ 1000000 := fun e he => by have := hB.ws e he; omega
  have hrun := runS_check w _ f 0 hB.run
  have hist1 := hB.hist
  clear hB
  repeat (first | refine LOps.nil ?_ | refine andThen_normal ?_ | refine andThen_exit ?_ | refine andThen_ret ?_ | refine inBlock_normal ?_ | refine inBlock_ret ?_ | refine inBlock_here ?_ | refine inBlock_out rfl ?_ | refine LWp.seq ?_ | refine LWp.region ?_ | refine LWp.block ?_ | refine LWp.exit ?_ | refine LWp.ret ?_ | refine LWp.skip ?_ | refine LOps.valA ?_ | refine LOps.outA ?_ | refine LOps.whenA ?_ | refine LOps.pickA ?_ | refine LOps.storeA ?_)
  refine LOps.do (LDo.callF (events_R hP F b w f (by omega) hws S1 hist1) (by rw [hP]; exact Try.func17)) rfl rfl rfl ?_
  rintro _ S2 ⟨X, rfl, le2, hX⟩
  repeat (first | refine LOps.nil ?_ | refine andThen_normal ?_ | refine andThen_exit ?_ | refine andThen_ret ?_ | refine inBlock_normal ?_ | refine inBlock_ret ?_ | refine inBlock_here ?_ | refine inBlock_out rfl ?_ | refine LWp.seq ?_ | refine LWp.region ?_ | refine LWp.block ?_ | refine LWp.exit ?_ | refine LWp.ret ?_ | refine LWp.skip ?_ | refine LOps.valA ?_ | refine LOps.outA ?_ | refine LOps.whenA ?_ | refine LOps.pickA ?_ | refine LOps.storeA ?_)
  refine LOps.do (LDo.callF (events_L hP F b w f (by omega) hws S2 (hist1.le le2)) (by rw [hP]; exact Try.func17)) rfl rfl rfl ?_
  rintro _ S3 ⟨rfl, le3⟩
  replace hX := hX.le le3
  replace le2 := le2.trans le3
  clear le3
  repeat (first | refine LWp.seq (LWp.cut 14 (fun T1 S4 => S1.le S4 ∧ ∃ (T2 : Nat → TV), T1 = over T2 [(3, ptr b), (6, .one (.sl .sh (w.map evL)))]) rfl ?_ ?_) | refine LOps.nil ?_ | refine andThen_normal ?_ | refine andThen_exit ?_ | refine andThen_ret ?_ | refine inBlock_normal ?_ | refine inBlock_ret ?_ | refine inBlock_here ?_ | refine inBlock_out rfl ?_ | refine LWp.seq ?_ | refine LWp.region ?_ | refine LWp.block ?_ | refine LWp.exit ?_ | refine LWp.ret ?_ | refine LWp.skip ?_ | refine LOps.valA ?_ | refine LOps.outA ?_ | refine LOps.whenA ?_ | refine LOps.pickA ?_ | refine LOps.storeA ?_)
  · repeat (first | refine LOps.nil ?_ | refine andThen_normal ?_ | refine andThen_exit ?_ | refine andThen_ret ?_ | refine inBlock_normal ?_ | refine inBlock_ret ?_ | refine inBlock_here ?_ | refine inBlock_out rfl ?_ | refine LWp.seq ?_ | refine LWp.region ?_ | refine LWp.block ?_ | refine LWp.exit ?_ | refine LWp.ret ?_ | refine LWp.skip ?_ | refine LOps.valA ?_ | refine LOps.outA ?_ | refine LOps.whenA ?_ | refine LOps.pickA ?_ | refine LOps.storeA ?_)
    refine LWp.loop (fun k T S4 => ∃ T' j, j ≤ w.length ∧ k = w.length - j ∧ S1.le S4 ∧ NewEv S1 S4 X w.length ∧ T = over T' [(3, ptr b), (5, .one X), (6, .one (.sl .sh (w.map evL))), (7, .one (iv (j : Nat)))]) w.length ?_ ?_
    · exact ⟨_, 0, by omega, by omega, le2, hX, holds.over ⟨rfl, rfl, rfl, rfl, trivial⟩⟩
    clear hX le2 S2 S3
    rintro k T S4 ⟨T', j, hj, rfl, hle, hX, rfl⟩
    repeat (first | refine LOps.val (LVal.lenNewEv hD hX rfl rfl rfl rfl) rfl rfl rfl ?_ | refine LOps.nil ?_ | refine andThen_normal ?_ | refine andThen_exit ?_ | refine andThen_ret ?_ | refine inBlock_normal ?_ | refine inBlock_ret ?_ | refine inBlock_here ?_ | refine inBlock_out rfl ?_ | refine LWp.seq ?_ | refine LWp.region ?_ | refine LWp.block ?_ | refine LWp.exit ?_ | refine LWp.ret ?_ | refine LWp.skip ?_ | refine LOps.valA ?_ | refine LOps.outA ?_ | refine LOps.whenA ?_ | refine LOps.pickA ?_ | refine LOps.storeA ?_)
    refine LWp.cond rfl (fun h => ?_) (fun h => ?_)
    · have hlt : j < w.length := by simpa using h
      obtain ⟨r, off, c, cs, rfl, hb⟩ : ∃ r off c cs, X = rsl r off w.length c ∧ S4.box r = some cs := by
        rcases hX with ⟨_, h0⟩ | ⟨r, off, c, cs, h1, h2, _⟩
        · omega
        · exact ⟨r, off, c, cs, h1, h2⟩
      obtain ⟨hr0, hcs, -⟩ := hX.row hb
      repeat (first | refine LOps.val (r := .one (.v (.pointer (some ⟨r, off + j * 13, none⟩)))) (LVal.to (LVal.indexR hD rfl rfl rfl rfl rfl rfl (by omega) (by omega)) (by rw [Int.toNat_natCast]; rfl)) rfl rfl rfl ?_ | refine LOps.nil ?_ | refine andThen_normal ?_ | refine andThen_exit ?_ | refine andThen_ret ?_ | refine inBlock_normal ?_ | refine inBlock_ret ?_ | refine inBlock_here ?_ | refine inBlock_out rfl ?_ | refine LWp.seq ?_ | refine LWp.region ?_ | refine LWp.block ?_ | refine LWp.exit ?_ | refine LWp.ret ?_ | refine LWp.skip ?_ | refine LOps.valA ?_ | refine LOps.outA ?_ | refine LOps.whenA ?_ | refine LOps.pickA ?_ | refine LOps.storeA ?_)
      refine LOps.do0 (LDo.store hD rfl rfl hb rfl rfl rfl (by rw [Nat.ble_eq]; show off + j * 13 + 1 + 1 ≤ cs.length; omega)) rfl rfl ?_
      rintro _ _ ⟨rfl, rfl⟩
      have hX2 := hX.setId hb hlt (iv (-5))
      have hle2 := hle.setBox hr0 (splice cs (off + j * 13 + 1) [iv (-5)])
      have hb2 := box_set S4 r (splice cs (off + j * 13 + 1) [iv (-5)])
      refine LOps.gen (fun S5 => ∃ cs, S1.le S5 ∧ NewEv S1 S5 (rsl r off w.length c) w.length ∧ S5.box r = some cs) ⟨_, hle2, hX2, hb2⟩ ?_
      clear hX2 hle2 hb2 hX hle hb hcs cs S4
      rintro S5 ⟨cs, hle, hX, hb⟩
      obtain ⟨-, hcs, hY⟩ := hX.row hb
      obtain ⟨Y, hYe, -⟩ := hY j hlt
      repeat (first | refine LOps.nil ?_ | refine andThen_normal ?_ | refine andThen_exit ?_ | refine andThen_ret ?_ | refine inBlock_normal ?_ | refine inBlock_ret ?_ | refine inBlock_here ?_ | refine inBlock_out rfl ?_ | refine LWp.seq ?_ | refine LWp.region ?_ | refine LWp.block ?_ | refine LWp.exit ?_ | refine LWp.ret ?_ | refine LWp.skip ?_ | refine LOps.valA ?_ | refine LOps.outA ?_ | refine LOps.whenA ?_ | refine LOps.pickA ?_ | refine LOps.storeA ?_)
      refine LWp.loop (fun k T S6 => ∃ (T' : Nat → TV) (q : Nat), q ≤ lenW Y ∧ k = lenW Y - q ∧ S1.le S6 ∧ NewEv S1 S6 (rsl r off w.length c) w.length ∧ S6.box r = some cs ∧ T = over T' [(3, ptr b), (5, .one (rsl r off w.length c)), (6, .one (.sl .sh (w.map evL))), (7, .one (iv (j : Nat))), (8, .one (iv (q : Nat)))]) (lenW Y) ?_ ?_
      · exact ⟨_, 0, by omega, by omega, hle, hX, hb, holds.over ⟨rfl, rfl, rfl, rfl, rfl, trivial⟩⟩
      clear hX hle hb hY S5
      rintro k T S6 ⟨T', q, hq, rfl, hle, hX, hb, rfl⟩
      obtain ⟨-, -, hY⟩ := hX.row hb
      obtain ⟨Y', hYe', hW⟩ := hY j hlt
      rw [hYe] at hYe'
      obtain rfl : Y = Y' := by simpa using hYe'
      clear hYe' hY
      have hrd := rd_ws hYe
      repeat (first | refine LOps.val (r := .one (.v (.pointer (some ⟨r, off + j * 13, none⟩)))) (LVal.to (LVal.indexR hD rfl rfl rfl rfl rfl rfl (by omega) (by omega)) (by rw [Int.toNat_natCast]; rfl)) rfl rfl rfl ?_ | refine LOps.val (LVal.load hD rfl rfl hb rfl hrd) rfl rfl rfl ?_ | refine LOps.val (LVal.lenNewWs hD hW rfl rfl rfl rfl) rfl rfl rfl ?_ | refine LOps.nil ?_ | refine andThen_normal ?_ | refine andThen_exit ?_ | refine andThen_ret ?_ | refine inBlock_normal ?_ | refine inBlock_ret ?_ | refine inBlock_here ?_ | refine inBlock_out rfl ?_ | refine LWp.seq ?_ | refine LWp.region ?_ | refine LWp.block ?_ | refine LWp.exit ?_ | refine LWp.ret ?_ | refine LWp.skip ?_ | refine LOps.valA ?_ | refine LOps.outA ?_ | refine LOps.whenA ?_ | refine LOps.pickA ?_ | refine LOps.storeA ?_)
      refine LWp.cond rfl (fun h => ?_) (fun h => ?_)
      · have hlt2 : q < lenW Y := by simpa using h
        obtain ⟨p, m, d, ws, rfl, hpr, hp, hp0, hm, hm2⟩ : ∃ p m d ws, Y = rsl p 0 m d ∧ p ≠ r ∧ S6.box p = some ws ∧ S1.box p = none ∧ m * 3 ≤ ws.length ∧ m ≤ 1000000 := by
          rcases hW with rfl | h
          · exact absurd hlt2 (by show ¬ q < 0; omega)
          · exact h
        have hlt3 : q < m := hlt2
        repeat (first | refine LOps.val (r := .one (.v (.pointer (some ⟨r, off + j * 13, none⟩)))) (LVal.to (LVal.indexR hD rfl rfl rfl rfl rfl rfl (by omega) (by omega)) (by rw [Int.toNat_natCast]; rfl)) rfl rfl rfl ?_ | refine LOps.val (LVal.load hD rfl rfl hb rfl hrd) rfl rfl rfl ?_ | refine LOps.val (r := .one (.v (.pointer (some ⟨p, 0 + q * 3, none⟩)))) (LVal.to (LVal.indexR hD rfl rfl rfl rfl rfl rfl (by omega) (by omega)) (by rw [Int.toNat_natCast]; rfl)) rfl rfl rfl ?_ | refine LOps.nil ?_ | refine andThen_normal ?_ | refine andThen_exit ?_ | refine andThen_ret ?_ | refine inBlock_normal ?_ | refine inBlock_ret ?_ | refine inBlock_here ?_ | refine inBlock_out rfl ?_ | refine LWp.seq ?_ | refine LWp.region ?_ | refine LWp.block ?_ | refine LWp.exit ?_ | refine LWp.ret ?_ | refine LWp.skip ?_ | refine LOps.valA ?_ | refine LOps.outA ?_ | refine LOps.whenA ?_ | refine LOps.pickA ?_ | refine LOps.storeA ?_)
        refine LOps.do0 (LDo.store hD rfl rfl hp rfl rfl rfl (by rw [Nat.ble_eq]; show 0 + q * 3 + 0 + 1 ≤ ws.length; omega)) rfl rfl ?_
        rintro _ _ ⟨rfl, rfl⟩
        have hX2 := hX.setW hpr hp (splice_length' (cs := ws) (l := [sv { data := #[119, 114, 105, 116, 116, 101, 110, 32, 111, 118, 101, 114] }]) (off := 0 + q * 3 + 0) (by show 0 + q * 3 + 0 + 1 ≤ ws.length; omega))
        have hb2 := (box_set_ne S6 (splice ws (0 + q * 3 + 0) [sv { data := #[119, 114, 105, 116, 116, 101, 110, 32, 111, 118, 101, 114] }]) hpr.symm).trans hb
        have hle2 := hle.setBox hp0 (splice ws (0 + q * 3 + 0) [sv { data := #[119, 114, 105, 116, 116, 101, 110, 32, 111, 118, 101, 114] }])
        repeat (first | refine LOps.nil ?_ | refine andThen_normal ?_ | refine andThen_exit ?_ | refine andThen_ret ?_ | refine inBlock_normal ?_ | refine inBlock_ret ?_ | refine inBlock_here ?_ | refine inBlock_out rfl ?_ | refine LWp.seq ?_ | refine LWp.region ?_ | refine LWp.block ?_ | refine LWp.exit ?_ | refine LWp.ret ?_ | refine LWp.skip ?_ | refine LOps.valA ?_ | refine LOps.outA ?_ | refine LOps.whenA ?_ | refine LOps.pickA ?_ | refine LOps.storeA ?_)
        exact ⟨lenW (rsl p 0 m d) - (q + 1), by omega, _, q + 1, hlt2, rfl, hle2, hX2, hb2, holds.over ⟨rfl, rfl, rfl, rfl, rfl, trivial⟩⟩
      · repeat (first | refine LOps.nil ?_ | refine andThen_normal ?_ | refine andThen_exit ?_ | refine andThen_ret ?_ | refine inBlock_normal ?_ | refine inBlock_ret ?_ | refine inBlock_here ?_ | refine inBlock_out rfl ?_ | refine LWp.seq ?_ | refine LWp.region ?_ | refine LWp.block ?_ | refine LWp.exit ?_ | refine LWp.ret ?_ | refine LWp.skip ?_ | refine LOps.valA ?_ | refine LOps.outA ?_ | refine LOps.whenA ?_ | refine LOps.pickA ?_ | refine LOps.storeA ?_)
        exact ⟨w.length - (j + 1), by omega, _, j + 1, by omega, rfl, hle, hX, holds.over ⟨rfl, rfl, rfl, rfl, trivial⟩⟩
    · repeat (first | refine LOps.nil ?_ | refine andThen_normal ?_ | refine andThen_exit ?_ | refine andThen_ret ?_ | refine inBlock_normal ?_ | refine inBlock_ret ?_ | refine inBlock_here ?_ | refine inBlock_out rfl ?_ | refine LWp.seq ?_ | refine LWp.region ?_ | refine LWp.block ?_ | refine LWp.exit ?_ | refine LWp.ret ?_ | refine LWp.skip ?_ | refine LOps.valA ?_ | refine LOps.outA ?_ | refine LOps.whenA ?_ | refine LOps.pickA ?_ | refine LOps.storeA ?_)
      exact ⟨hle, _, holds.over ⟨rfl, rfl, trivial⟩⟩
  clear hX le2 S2 S3 X
  rintro T1 S4 ⟨hle, T2, rfl⟩
  have hck := check_F hP w (by omega)
  rw [hrun] at hck
  have hwl : w.length < 1000000 := by omega
  have hsame := same_F hP w w hwl hws2
  rw [decide_eq_true rfl] at hsame
  repeat (first | refine LOps.val (r := .agg (opL noOp)) (LVal.shTo (LVal.build hD rfl rfl rfl rfl rfl rfl rfl) rfl) rfl rfl rfl ?_ | refine LOps.val (r := .agg (ansL noAns)) (LVal.shTo (LVal.build hD rfl rfl rfl rfl rfl rfl rfl) rfl) rfl rfl rfl ?_ | refine LOps.nil ?_ | refine andThen_normal ?_ | refine andThen_exit ?_ | refine andThen_ret ?_ | refine inBlock_normal ?_ | refine inBlock_ret ?_ | refine inBlock_here ?_ | refine inBlock_out rfl ?_ | refine LWp.seq ?_ | refine LWp.region ?_ | refine LWp.block ?_ | refine LWp.exit ?_ | refine LWp.ret ?_ | refine LWp.skip ?_ | refine LOps.val (LVal.call rfl rfl (by rw [hP]; exact Try.func18) rfl (by decide) (hck)) rfl rfl rfl ?_ | refine LOps.val (LVal.call rfl rfl (by rw [hP]; exact Try.func11) rfl (by decide) (beginN_F hP 1 noOp)) rfl rfl rfl ?_ | refine LOps.val (LVal.call rfl rfl (by rw [hP]; exact Try.func12) rfl (by decide) (markN_F hP 1 noAns)) rfl rfl rfl ?_ | refine LOps.whenC (LVal.call rfl rfl (by rw [hP]; exact Try.func18) rfl (by decide) (hck)) ?_ | refine LOps.whenC (LVal.call rfl rfl (by rw [hP]; exact Try.func11) rfl (by decide) (beginN_F hP 1 noOp)) ?_ | refine LOps.whenC (LVal.call rfl rfl (by rw [hP]; exact Try.func12) rfl (by decide) (markN_F hP 1 noAns)) ?_ | refine LOps.valA ?_ | refine LOps.outA ?_ | refine LOps.whenA ?_ | refine LOps.pickA ?_ | refine LOps.storeA ?_)
  refine LOps.val (LVal.call rfl rfl (by rw [hP]; exact Try.func13) rfl (by decide) (endN_F hP 1)) rfl rfl rfl ?_
  refine LOps.val (r := .one (iv 2)) (LVal.to (LVal.move (.inr rfl)) rfl) rfl rfl rfl ?_
  refine LOps.nil ?_
  refine andThen_normal ?_
  refine LWp.seq ?_
  refine LWp.region ?_
  refine LOps.valG (r := .one (iv (-1))) (LVal.to (LVal.move (.inl rfl)) rfl) rfl rfl rfl ?_
  refine LOps.valG (r := .one (bv true)) (LVal.to (LVal.binOp hD rfl rfl rfl rfl) rfl) rfl rfl rfl ?_
  refine LOps.valG (r := .one (bv true)) (LVal.to (LVal.move (.inl rfl)) rfl) rfl rfl rfl ?_
  refine LOps.valG (r := .one (iv 0)) (LVal.to (LVal.move (.inl rfl)) rfl) rfl rfl rfl ?_
  refine LOps.valG (r := .one (bv true)) (LVal.to (LVal.binOp hD rfl rfl rfl rfl) rfl) rfl rfl rfl ?_
  refine LOps.valG (r := .one (bv true)) (LVal.to (LVal.pick rfl rfl) rfl) rfl rfl rfl ?_
  refine LOps.valG (r := .one (bv true)) (LVal.to (LVal.move (.inl rfl)) rfl) rfl rfl rfl ?_
  refine LOps.valG (r := .one (.sl .sh (w.map evL))) (LVal.to (LVal.move (.inl rfl)) rfl) rfl rfl rfl ?_
  refine LOps.valG (r := ptr b) (LVal.to (LVal.move (.inl rfl)) rfl) rfl rfl rfl ?_
  refine LOps.do (LDo.callF (events_L hP F b w f (by omega) hws S4 (hist1.le hle)) (by rw [hP]; exact Try.func17)) rfl rfl rfl ?_
  rintro _ S5 ⟨rfl, le5⟩
  refine LOps.valG (LVal.call rfl rfl (by rw [hP]; exact Try.func16) rfl (by decide) hsame) rfl rfl rfl ?_
  refine LOps.valG (r := .one (bv true)) (LVal.to (LVal.pick rfl rfl) rfl) rfl rfl rfl ?_
  refine LOps.valG (r := .one (bv true)) (LVal.to (LVal.move (.inl rfl)) rfl) rfl rfl rfl ?_
  refine LOps.valG (r := .one (iv 2)) (LVal.to (LVal.move (.inl rfl)) rfl) rfl rfl rfl ?_
  refine LOps.valG (r := .one (bv true)) (LVal.to (LVal.binOp hD rfl rfl rfl rfl) rfl) rfl rfl rfl ?_
  refine LOps.valG (r := .one (bv true)) (LVal.to (LVal.pick rfl rfl) rfl) rfl rfl rfl ?_
  refine LOps.valG (r := .one (bv true)) (LVal.to (LVal.move (.inl rfl)) rfl) rfl rfl rfl ?_
  refine LOps.valG (r := .one (iv 2)) (LVal.to (LVal.move (.inl rfl)) rfl) rfl rfl rfl ?_
  refine LOps.valG (r := .one (bv true)) (LVal.to (LVal.binOp hD rfl rfl rfl rfl) rfl) rfl rfl rfl ?_
  refine LOps.valG (r := .one (bv true)) (LVal.to (LVal.pick rfl rfl) rfl) rfl rfl rfl ?_
  refine LOps.valG (r := .one (bv true)) (LVal.to (LVal.move (.inl rfl)) rfl) rfl rfl rfl ?_
  refine LOps.valG (r := .one (iv 2)) (LVal.to (LVal.move (.inl rfl)) rfl) rfl rfl rfl ?_
  refine LOps.valG (r := .one (bv true)) (LVal.to (LVal.binOp hD rfl rfl rfl rfl) rfl) rfl rfl rfl ?_
  refine LOps.valG (r := .one (bv true)) (LVal.to (LVal.pick rfl rfl) rfl) rfl rfl rfl ?_
  refine LOps.valG (r := .one (bv true)) (LVal.to (LVal.move (.inl rfl)) rfl) rfl rfl rfl ?_
  refine LOps.valG (r := nilP) (LVal.to (LVal.move (.inl rfl)) rfl) rfl rfl rfl ?_
  refine LOps.valG (LVal.call rfl rfl (by rw [hP]; exact Try.func17) rfl (by decide) (eventsN_F hP)) rfl rfl rfl ?_
  refine LOps.valG (r := .one (iv 0)) (LVal.to (LVal.len hD rfl rfl rfl rfl) rfl) rfl rfl rfl ?_
  refine LOps.valG (r := .one (bv true)) (LVal.to (LVal.binOp hD rfl rfl rfl rfl) rfl) rfl rfl rfl ?_
  refine LOps.valG (r := .one (bv true)) (LVal.to (LVal.pick rfl rfl) rfl) rfl rfl rfl ?_
  refine LOps.valG (r := .one (bv true)) (LVal.to (LVal.move (.inl rfl)) rfl) rfl rfl rfl ?_
  refine LOps.do (LDo.callF (wakes_L hP _) (by rw [hP]; exact Try.func9)) rfl rfl rfl ?_
  rintro _ S6 ⟨rfl, _⟩
  refine LOps.valG (r := .one (bv true)) (LVal.to (LVal.pick rfl rfl) rfl) rfl rfl rfl ?_
  repeat (first | refine LOps.nil ?_ | refine andThen_normal ?_ | refine andThen_exit ?_ | refine andThen_ret ?_ | refine inBlock_normal ?_ | refine inBlock_ret ?_ | refine inBlock_here ?_ | refine inBlock_out rfl ?_ | refine LWp.seq ?_ | refine LWp.region ?_ | refine LWp.block ?_ | refine LWp.exit ?_ | refine LWp.ret ?_ | refine LWp.skip ?_ | refine LOps.valA ?_ | refine LOps.outA ?_ | refine LOps.whenA ?_ | refine LOps.pickA ?_ | refine LOps.storeA ?_)
  exact ⟨_, LRes.one rfl, rfl⟩
end Go.Proofs.Ytmdfjojohfhcgaa.LF
