/- The document's Decode, Same; same. -/
import Derived.Test.YtbifiagpmoakdaaLSj
set_option linter.unusedVariables false
set_option linter.unusedSimpArgs false
namespace Go.Proofs.Ytbifiagpmoakdaa.LF
open Go.RowKit

theorem eqWr : EqTy Try.prog D 51 := ⟨by kernel_rfl, by kernel_rfl⟩
theorem beq_decB (a b : Bool) : (a == b) = decide (a = b) := by cases a <;> cases b <;> rfl
theorem wr_eq (a b : Wr) : (decide (a.key = b.key) && (decide (a.val = b.val) && ((a.gone == b.gone) && true))) = decide (a = b) := by
  obtain ⟨a1, a2, a3⟩ := a
  obtain ⟨b1, b2, b3⟩ := b
  rw [beq_decB]
  simp only [Wr.mk.injEq]
  by_cases h1 : a1 = b1 <;> by_cases h2 : a2 = b2 <;> by_cases h3 : a3 = b3 <;> simp [h1, h2, h3]
theorem enc_lt {s : Nat × Bool} : decide (enc s < 0) = s.2 := by
  obtain ⟨p, d⟩ := s
  cases d <;> simp [enc]

set_option maxHeartbeats 8000000 in
theorem refDecode_F {G : Ctx} (hP : G.P = Try.prog) (bs : List UInt8) (hbs : bs.length ≤ 1000000000) : LFun G 13 [.one (.sl .sh (bL bs))] (.one (.sl .sh ((decodeS bs).map enL))) := LFun.of fun S => by
  have hD : TabOK G.P D := by rw [hP]; exact hD0
  have hml : (bL bs).length = bs.length := List.length_map ..
  refine LCalls.enter (fn := Try.f13) (by rw [hP]; exact Try.func13) rfl rfl ?_
  repeat (first | refine LWp.seq (LWp.cut 1 (fun T' S' => S' = S ∧ ∃ T'', T' = over T'' [(0, .one (.sl .sh (bL (bs.take 16384))))]) rfl ?_ ?_) | refine LOps.nil ?_ | refine andThen_normal ?_ | refine andThen_exit ?_ | refine andThen_ret ?_ | refine inBlock_normal ?_ | refine inBlock_ret ?_ | refine inBlock_here ?_ | refine inBlock_out rfl ?_ | refine LWp.seq ?_ | refine LWp.region ?_ | refine LWp.block ?_ | refine LWp.exit ?_ | refine LWp.ret ?_ | refine LWp.skip ?_ | refine LOps.valA ?_ | refine LOps.outA ?_ | refine LOps.whenA ?_ | refine LOps.pickA ?_ | refine LOps.storeA ?_)
  · repeat (first | refine LOps.nil ?_ | refine andThen_normal ?_ | refine andThen_exit ?_ | refine andThen_ret ?_ | refine inBlock_normal ?_ | refine inBlock_ret ?_ | refine inBlock_here ?_ | refine inBlock_out rfl ?_ | refine LWp.seq ?_ | refine LWp.region ?_ | refine LWp.block ?_ | refine LWp.exit ?_ | refine LWp.ret ?_ | refine LWp.skip ?_ | refine LOps.valA ?_ | refine LOps.outA ?_ | refine LOps.whenA ?_ | refine LOps.pickA ?_ | refine LOps.storeA ?_)
    refine LWp.cond rfl (fun h => ?_) (fun h => ?_)
    · have h : 16384 < bs.length := by simp at h; omega
      repeat (first | refine LOps.val (LVal.takeMap (n := 16384) hD rfl rfl rfl rfl rfl rfl (by omega) rfl (fun _ _ => rfl)) rfl rfl rfl ?_ | refine LOps.nil ?_ | refine andThen_normal ?_ | refine andThen_exit ?_ | refine andThen_ret ?_ | refine inBlock_normal ?_ | refine inBlock_ret ?_ | refine inBlock_here ?_ | refine inBlock_out rfl ?_ | refine LWp.seq ?_ | refine LWp.region ?_ | refine LWp.block ?_ | refine LWp.exit ?_ | refine LWp.ret ?_ | refine LWp.skip ?_ | refine LOps.valA ?_ | refine LOps.outA ?_ | refine LOps.whenA ?_ | refine LOps.pickA ?_ | refine LOps.storeA ?_)
      exact ⟨rfl, _, holds.over ⟨rfl, trivial⟩⟩
    · have h : bs.length ≤ 16384 := by simp at h; omega
      repeat (first | refine LOps.nil ?_ | refine andThen_normal ?_ | refine andThen_exit ?_ | refine andThen_ret ?_ | refine inBlock_normal ?_ | refine inBlock_ret ?_ | refine inBlock_here ?_ | refine inBlock_out rfl ?_ | refine LWp.seq ?_ | refine LWp.region ?_ | refine LWp.block ?_ | refine LWp.exit ?_ | refine LWp.ret ?_ | refine LWp.skip ?_ | refine LOps.valA ?_ | refine LOps.outA ?_ | refine LOps.whenA ?_ | refine LOps.pickA ?_ | refine LOps.storeA ?_)
      exact ⟨rfl, _, holds.over ⟨by rw [List.take_of_length_le h]; rfl, trivial⟩⟩
  rintro T0 S0 ⟨rfl, T1, rfl⟩
  unfold decodeS
  have hcl : (bs.take 16384).length ≤ 16384 := by rw [List.length_take]; omega
  generalize bs.take 16384 = cs at hcl
  clear hml hbs
  have hml : (bL cs).length = cs.length := List.length_map ..
  repeat (first | refine LOps.nil ?_ | refine andThen_normal ?_ | refine andThen_exit ?_ | refine andThen_ret ?_ | refine inBlock_normal ?_ | refine inBlock_ret ?_ | refine inBlock_here ?_ | refine inBlock_out rfl ?_ | refine LWp.seq ?_ | refine LWp.region ?_ | refine LWp.block ?_ | refine LWp.exit ?_ | refine LWp.ret ?_ | refine LWp.skip ?_ | refine LOps.valA ?_ | refine LOps.outA ?_ | refine LOps.whenA ?_ | refine LOps.pickA ?_ | refine LOps.storeA ?_)
  refine LWp.loop (fun k T S' => ∃ T' p acc o, S0.le S' ∧ p ≤ cs.length ∧ cs.length ≤ p + k ∧ acc.length ≤ p ∧ acc ++ decS cs k p = decS cs cs.length 0 ∧ Owned S' 35 acc.length o ∧ Out S0 o ∧ T = over T' [(0, .one (.sl .sh (bL cs))), (3, .one (.sl o (acc.map enL))), (4, .one (iv (p : Nat)))]) cs.length ?_ ?_
  · exact ⟨_, 0, [], .nil, .refl _, by omega, by omega, by simp, rfl, rfl, .nil _, holds.over ⟨rfl, rfl, rfl, trivial⟩⟩
  rintro k T S1 ⟨T', p, acc, o, hle, hp, hk, hacc, he, own, hout, rfl⟩
  repeat (first | refine LOps.nil ?_ | refine andThen_normal ?_ | refine andThen_exit ?_ | refine andThen_ret ?_ | refine inBlock_normal ?_ | refine inBlock_ret ?_ | refine inBlock_here ?_ | refine inBlock_out rfl ?_ | refine LWp.seq ?_ | refine LWp.region ?_ | refine LWp.block ?_ | refine LWp.exit ?_ | refine LWp.ret ?_ | refine LWp.skip ?_ | refine LOps.valA ?_ | refine LOps.outA ?_ | refine LOps.whenA ?_ | refine LOps.pickA ?_ | refine LOps.storeA ?_)
  refine LWp.cond rfl (fun h => ?_) (fun h => ?_)
  · have hlt : p < cs.length := by simpa using h
    obtain ⟨k, rfl⟩ : ∃ k', k = k' + 1 := ⟨k - 1, by omega⟩
    obtain ⟨x, s1, ex⟩ : ∃ x s1, enR cs p = (x, s1) := ⟨_, _, rfl⟩
    have hc := refEntry_F hP cs (by omega) p hlt
    have hr := enR_eq hlt
    rw [ex] at hc hr
    have hr1 : enc s1 = enc (enS cs (p, false)).2 := hr.1
    repeat (first | refine LOps.nil ?_ | refine andThen_normal ?_ | refine andThen_exit ?_ | refine andThen_ret ?_ | refine inBlock_normal ?_ | refine inBlock_ret ?_ | refine inBlock_here ?_ | refine inBlock_out rfl ?_ | refine LWp.seq ?_ | refine LWp.region ?_ | refine LWp.block ?_ | refine LWp.exit ?_ | refine LWp.ret ?_ | refine LWp.skip ?_ | refine LOps.val (LVal.call rfl rfl (by rw [hP]; exact Try.func19) rfl (by decide) (hc)) rfl rfl rfl ?_ | refine LOps.whenC (LVal.call rfl rfl (by rw [hP]; exact Try.func19) rfl (by decide) (hc)) ?_ | refine LOps.valA ?_ | refine LOps.outA ?_ | refine LOps.whenA ?_ | refine LOps.pickA ?_ | refine LOps.storeA ?_)
    refine LOps.do (LDo.alloc hD rfl rfl rfl) rfl rfl rfl ?_
    rintro _ _ ⟨b5, hb5, rfl, rfl⟩
    have s5 := hle.none hb5
    repeat (first | refine LOps.nil ?_ | refine andThen_normal ?_ | refine andThen_exit ?_ | refine andThen_ret ?_ | refine inBlock_normal ?_ | refine inBlock_ret ?_ | refine inBlock_here ?_ | refine inBlock_out rfl ?_ | refine LWp.seq ?_ | refine LWp.region ?_ | refine LWp.block ?_ | refine LWp.exit ?_ | refine LWp.ret ?_ | refine LWp.skip ?_ | refine LOps.valA ?_ | refine LOps.outA ?_ | refine LOps.whenA ?_ | refine LOps.pickA ?_ | refine LOps.storeA ?_)
    refine LWp.cond rfl (fun h => ?_) (fun h => ?_)
    · have h : decide (enc s1 < 0) = true := h
      obtain ⟨y, p', d, e2⟩ : ∃ y p' d, enS cs (p, false) = (y, (p', d)) := ⟨_, _, _, rfl⟩
      rw [hr1, enc_lt, e2] at h
      have h : d = true := h
      subst h
      repeat (first | refine LOps.nil ?_ | refine andThen_normal ?_ | refine andThen_exit ?_ | refine andThen_ret ?_ | refine inBlock_normal ?_ | refine inBlock_ret ?_ | refine inBlock_here ?_ | refine inBlock_out rfl ?_ | refine LWp.seq ?_ | refine LWp.region ?_ | refine LWp.block ?_ | refine LWp.exit ?_ | refine LWp.ret ?_ | refine LWp.skip ?_ | refine LOps.valA ?_ | refine LOps.outA ?_ | refine LOps.whenA ?_ | refine LOps.pickA ?_ | refine LOps.storeA ?_)
      exact ⟨k, by omega, _, p + 1, acc, o, (hle.newBox hb5 _).setBox s5 _, by omega, by omega, by omega, by rw [← he, decS_bad hlt e2], own, hout, holds.over ⟨rfl, rfl, rfl, trivial⟩⟩
    · have hh : (enS cs (p, false)).2.2 = false := by
        have h : decide (enc s1 < 0) = false := h
        rw [hr1, enc_lt] at h
        exact h
      have hq := hr.2 hh
      obtain ⟨p', d⟩ := s1
      have hat := enS_at (bs := cs) (s := (p, false)) hp
      have hgt := enS_gt hlt
      rw [← hq] at hat hgt
      have h : d = false := (congrArg (fun z => z.2.2) hq).trans hh
      subst h
      have hat : p' ≤ cs.length := hat
      have hgt : p + 1 ≤ p' := hgt
      have own2 : Owned ((S1.newBox b5 (lzero ti35)).setBox b5 (enL x)) 35 acc.length o := own
      have hle3 := (hle.newBox hb5 (lzero ti35)).setBox s5 (enL x)
      repeat (first | refine LOps.nil ?_ | refine andThen_normal ?_ | refine andThen_exit ?_ | refine andThen_ret ?_ | refine inBlock_normal ?_ | refine inBlock_ret ?_ | refine inBlock_here ?_ | refine inBlock_out rfl ?_ | refine LWp.seq ?_ | refine LWp.region ?_ | refine LWp.block ?_ | refine LWp.exit ?_ | refine LWp.ret ?_ | refine LWp.skip ?_ | refine LOps.valA ?_ | refine LOps.outA ?_ | refine LOps.whenA ?_ | refine LOps.pickA ?_ | refine LOps.storeA ?_)
      refine LOps.do (LDo.push hD rfl rfl rfl rfl rfl rfl rfl rfl rfl rfl (show _ = acc.length by simp) own2 (by omega)) rfl rfl rfl ?_
      rintro _ S3 ⟨o3, rfl, own3, hup, hno⟩
      repeat (first | refine LOps.nil ?_ | refine andThen_normal ?_ | refine andThen_exit ?_ | refine andThen_ret ?_ | refine inBlock_normal ?_ | refine inBlock_ret ?_ | refine inBlock_here ?_ | refine inBlock_out rfl ?_ | refine LWp.seq ?_ | refine LWp.region ?_ | refine LWp.block ?_ | refine LWp.exit ?_ | refine LWp.ret ?_ | refine LWp.skip ?_ | refine LOps.valA ?_ | refine LOps.outA ?_ | refine LOps.whenA ?_ | refine LOps.pickA ?_ | refine LOps.storeA ?_)
      exact ⟨k, by omega, _, p', acc ++ [x], o3, hle3.upto hup hout, hat, by omega, by simp; omega, by rw [← he, decS_go hlt hq.symm]; simp, own3.ofN (by simp), hout.next hle3 hno, holds.over ⟨rfl, congrArg (fun x => TV.one (LV.sl o3 x)) (List.map_append (f := enL) (l₁ := acc) (l₂ := [x])).symm, rfl, trivial⟩⟩
  · have hge : cs.length ≤ p := by simpa using h
    rw [decS_end hge, List.append_nil] at he
    subst he
    repeat (first | refine LOps.nil ?_ | refine andThen_normal ?_ | refine andThen_exit ?_ | refine andThen_ret ?_ | refine inBlock_normal ?_ | refine inBlock_ret ?_ | refine inBlock_here ?_ | refine inBlock_out rfl ?_ | refine LWp.seq ?_ | refine LWp.region ?_ | refine LWp.block ?_ | refine LWp.exit ?_ | refine LWp.ret ?_ | refine LWp.skip ?_ | refine LOps.valA ?_ | refine LOps.outA ?_ | refine LOps.whenA ?_ | refine LOps.pickA ?_ | refine LOps.storeA ?_)
    exact ⟨_, LRes.sh (LRes.one rfl), rfl, hle⟩

set_option maxHeartbeats 8000000 in
theorem refSame_F {G : Ctx} (hP : G.P = Try.prog) (x y : En) (hwx : x.op.writes.length < 1000000) : LFun G 17 [.agg (enL x), .agg (enL y)] (.one (bv (decide (x = y)))) := LFun.of fun S => by
  have hD : TabOK G.P D := by rw [hP]; exact hD0
  have ea : EqTy G.P D 51 := by rw [hP]; exact eqWr
  refine LCalls.enter (fn := Try.f17) (by rw [hP]; exact Try.func17) rfl rfl ?_
  repeat (first | refine LOps.nil ?_ | refine andThen_normal ?_ | refine andThen_exit ?_ | refine andThen_ret ?_ | refine inBlock_normal ?_ | refine inBlock_ret ?_ | refine inBlock_here ?_ | refine inBlock_out rfl ?_ | refine LWp.seq ?_ | refine LWp.region ?_ | refine LWp.block ?_ | refine LWp.exit ?_ | refine LWp.ret ?_ | refine LWp.skip ?_ | refine LOps.valA ?_ | refine LOps.outA ?_ | refine LOps.whenA ?_ | refine LOps.pickA ?_ | refine LOps.storeA ?_)
  refine LOps.do (LDo.box rfl rfl) rfl rfl rfl ?_
  rintro _ _ ⟨b2, hb2, rfl, rfl⟩
  repeat (first | refine LOps.nil ?_ | refine andThen_normal ?_ | refine andThen_exit ?_ | refine andThen_ret ?_ | refine inBlock_normal ?_ | refine inBlock_ret ?_ | refine inBlock_here ?_ | refine inBlock_out rfl ?_ | refine LWp.seq ?_ | refine LWp.region ?_ | refine LWp.block ?_ | refine LWp.exit ?_ | refine LWp.ret ?_ | refine LWp.skip ?_ | refine LOps.valA ?_ | refine LOps.outA ?_ | refine LOps.whenA ?_ | refine LOps.pickA ?_ | refine LOps.storeA ?_)
  refine LOps.do (LDo.box rfl rfl) rfl rfl rfl ?_
  rintro _ _ ⟨b3, hb3, rfl, rfl⟩
  have n23 := fresh_ne hb3 (box_new S b2 (enL x))
  have hle : S.le ((S.newBox b2 (enL x)).newBox b3 (enL y)) := (LS.le.newBox (.refl S) hb2 (enL x)).newBox hb3 (enL y)
  have k2 : ((S.newBox b2 (enL x)).newBox b3 (enL y)).box b2 = some (enL x) := (box_new_ne _ _ n23).trans (box_new _ _ _)
  have k3 : ((S.newBox b2 (enL x)).newBox b3 (enL y)).box b3 = some (enL y) := box_new _ _ _
  generalize (S.newBox b2 (enL x)).newBox b3 (enL y) = S1 at hle k2 k3
  clear hb2 hb3
  refine LOps.valA ?_
  refine LOps.nil ?_
  refine andThen_normal ?_
  refine LWp.seq (.join (fun T' S' => ∃ (b5 b6 : Nat) (T'' : Nat → TV), T' = over T'' [(2, ptr b2), (3, ptr b3), (5, ptr b5), (6, ptr b6)] ∧ S.le S' ∧ S'.box b2 = some (enL x) ∧ S'.box b3 = some (enL y) ∧ S'.box b5 = some (opL x.op) ∧ S'.box b6 = some (opL y.op)) ?_ ?_)
  · have hn2 : ¬ (fun b => b ≠ b2 ∧ b ≠ b3) b2 := fun h => h.1 rfl
    have hn3 : ¬ (fun b => b ≠ b2 ∧ b ≠ b3) b3 := fun h => h.2 rfl
    refine LWp.drawX (fun b => b ≠ b2 ∧ b ≠ b3) [0, 1, 2, 3, 4, 5, 6, 7] (by rw [hP]; rfl) rfl ?_
    repeat (first | refine LRl.nil ?_ | refine LRl.valA ?_ | refine LRl.outA ?_ | refine LRl.whenA ?_ | refine LRl.pickA ?_)
    refine LRl.alt [0, 1, 2, 3, 5, 4, 6, 7] rfl (LDo.alloc hD rfl rfl rfl) (LDo.alloc hD rfl rfl rfl) rfl rfl rfl rfl rfl rfl (by rintro _ _ ⟨b, hb, _, rfl⟩; exact .newBox hb _) (by rintro _ _ ⟨b, hb, _, rfl⟩; exact .newBox hb _) ?_ ?_
    · rintro _ _ ⟨b5, hb5, rfl, rfl⟩
      refine LRl.act (LDo.alloc hD rfl rfl rfl) rfl rfl rfl rfl (by rintro _ _ ⟨b, hb, _, rfl⟩; exact .inl (.newBox hb _)) ?_
      rintro _ _ ⟨b6, hb6, rfl, rfl⟩
      have n : b5 ≠ b6 := fresh_ne hb6 (box_new S1 b5 (lzero ti33))
      have sb5 := hle.none hb5
      have sb6 := (hle.newBox hb5 (lzero ti33)).none hb6
      have y2 : (S1.newBox b5 (lzero ti33)).box b2 = some (enL x) := (box_new_ne _ _ (fresh_ne hb5 k2)).trans k2
      have y3 : (S1.newBox b5 (lzero ti33)).box b3 = some (enL y) := (box_new_ne _ _ (fresh_ne hb5 k3)).trans k3
      have nb52 : b5 ≠ b2 := (fresh_ne hb5 k2).symm
      have nb53 : b5 ≠ b3 := (fresh_ne hb5 k3).symm
      have nb62 : b6 ≠ b2 := (fresh_ne hb6 y2).symm
      have nb63 : b6 ≠ b3 := (fresh_ne hb6 y3).symm
      have hb5' : ((S1.newBox b5 (lzero ti33)).newBox b6 (lzero ti33)).box b5 = some (lzero ti33) := (box_new_ne _ _ n).trans (box_new _ _ _)
      have hb6' : ((S1.newBox b5 (lzero ti33)).newBox b6 (lzero ti33)).box b6 = some (lzero ti33) := box_new _ _ _
      have x2 : ((S1.newBox b5 (lzero ti33)).newBox b6 (lzero ti33)).box b2 = some (enL x) := (box_new_ne _ _ nb62.symm).trans y2
      have x3 : ((S1.newBox b5 (lzero ti33)).newBox b6 (lzero ti33)).box b3 = some (enL y) := (box_new_ne _ _ nb63.symm).trans y3
      have n56 : b5 ≠ b6 := n
      refine LRl.act0 (LDo.store hD rfl rfl hb5' rfl rfl rfl rfl) rfl rfl rfl (by rintro _ _ ⟨_, rfl⟩; exact .inl (.setBox ⟨nb52, nb53⟩ _)) ?_
      rintro _ _ ⟨rfl, rfl⟩
      refine LRl.act0 (LDo.store hD rfl rfl ((box_set_ne _ _ n56.symm).trans hb6') rfl rfl rfl rfl) rfl rfl rfl (fun _ _ _ => .inr rfl) ?_
      rintro _ _ ⟨rfl, rfl⟩
      repeat (first | refine LRl.nil ?_ | refine LRl.valA ?_ | refine LRl.outA ?_ | refine LRl.whenA ?_ | refine LRl.pickA ?_)
      exact ⟨b5, b6, _, holds.over ⟨rfl, rfl, rfl, rfl, trivial⟩, (((hle.newBox hb5 _).newBox hb6 _).setBox sb5 _).setBox sb6 _, (box_set_ne _ _ nb62.symm).trans ((box_set_ne _ _ nb52.symm).trans x2), (box_set_ne _ _ nb63.symm).trans ((box_set_ne _ _ nb53.symm).trans x3), (box_set_ne _ _ n56).trans (box_set _ _ _), box_set _ _ _⟩
    · rintro _ _ ⟨b6, hb6, rfl, rfl⟩
      refine LRl.act (LDo.alloc hD rfl rfl rfl) rfl rfl rfl rfl (by rintro _ _ ⟨b, hb, _, rfl⟩; exact .inl (.newBox hb _)) ?_
      rintro _ _ ⟨b5, hb5, rfl, rfl⟩
      have n : b6 ≠ b5 := fresh_ne hb5 (box_new S1 b6 (lzero ti33))
      have sb6 := hle.none hb6
      have sb5 := (hle.newBox hb6 (lzero ti33)).none hb5
      have y2 : (S1.newBox b6 (lzero ti33)).box b2 = some (enL x) := (box_new_ne _ _ (fresh_ne hb6 k2)).trans k2
      have y3 : (S1.newBox b6 (lzero ti33)).box b3 = some (enL y) := (box_new_ne _ _ (fresh_ne hb6 k3)).trans k3
      have nb62 : b6 ≠ b2 := (fresh_ne hb6 k2).symm
      have nb63 : b6 ≠ b3 := (fresh_ne hb6 k3).symm
      have nb52 : b5 ≠ b2 := (fresh_ne hb5 y2).symm
      have nb53 : b5 ≠ b3 := (fresh_ne hb5 y3).symm
      have hb6' : ((S1.newBox b6 (lzero ti33)).newBox b5 (lzero ti33)).box b6 = some (lzero ti33) := (box_new_ne _ _ n).trans (box_new _ _ _)
      have hb5' : ((S1.newBox b6 (lzero ti33)).newBox b5 (lzero ti33)).box b5 = some (lzero ti33) := box_new _ _ _
      have x2 : ((S1.newBox b6 (lzero ti33)).newBox b5 (lzero ti33)).box b2 = some (enL x) := (box_new_ne _ _ nb52.symm).trans y2
      have x3 : ((S1.newBox b6 (lzero ti33)).newBox b5 (lzero ti33)).box b3 = some (enL y) := (box_new_ne _ _ nb53.symm).trans y3
      have n56 : b5 ≠ b6 := n.symm
      refine LRl.act0 (LDo.store hD rfl rfl hb5' rfl rfl rfl rfl) rfl rfl rfl (by rintro _ _ ⟨_, rfl⟩; exact .inl (.setBox ⟨nb52, nb53⟩ _)) ?_
      rintro _ _ ⟨rfl, rfl⟩
      refine LRl.act0 (LDo.store hD rfl rfl ((box_set_ne _ _ n56.symm).trans hb6') rfl rfl rfl rfl) rfl rfl rfl (fun _ _ _ => .inr rfl) ?_
      rintro _ _ ⟨rfl, rfl⟩
      repeat (first | refine LRl.nil ?_ | refine LRl.valA ?_ | refine LRl.outA ?_ | refine LRl.whenA ?_ | refine LRl.pickA ?_)
      exact ⟨b5, b6, _, holds.over ⟨rfl, rfl, rfl, rfl, trivial⟩, (((hle.newBox hb6 _).newBox hb5 _).setBox sb5 _).setBox sb6 _, (box_set_ne _ _ nb62.symm).trans ((box_set_ne _ _ nb52.symm).trans x2), (box_set_ne _ _ nb63.symm).trans ((box_set_ne _ _ nb53.symm).trans x3), (box_set_ne _ _ n56).trans (box_set _ _ _), box_set _ _ _⟩
  rintro T' S2 ⟨b5, b6, T'', rfl, hle, k2, k3, k5, k6⟩
  repeat (first | refine LOps.nil ?_ | refine andThen_normal ?_ | refine andThen_exit ?_ | refine andThen_ret ?_ | refine inBlock_normal ?_ | refine inBlock_ret ?_ | refine inBlock_here ?_ | refine inBlock_out rfl ?_ | refine LWp.seq ?_ | refine LWp.region ?_ | refine LWp.block ?_ | refine LWp.exit ?_ | refine LWp.ret ?_ | refine LWp.skip ?_ | refine LOps.valA ?_ | refine LOps.outA ?_ | refine LOps.whenA ?_ | refine LOps.pickA ?_ | refine LOps.storeA ?_)
  refine LWp.cond rfl (fun h => ?_) (fun h => ?_)
  · have hz : decide (x = y) = false := by
      rw [decide_eq_false_iff_not]
      rintro rfl
      simp at h
    rw [hz]
    repeat (first | refine LOps.nil ?_ | refine andThen_normal ?_ | refine andThen_exit ?_ | refine andThen_ret ?_ | refine inBlock_normal ?_ | refine inBlock_ret ?_ | refine inBlock_here ?_ | refine inBlock_out rfl ?_ | refine LWp.seq ?_ | refine LWp.region ?_ | refine LWp.block ?_ | refine LWp.exit ?_ | refine LWp.ret ?_ | refine LWp.skip ?_ | refine LOps.valA ?_ | refine LOps.outA ?_ | refine LOps.whenA ?_ | refine LOps.pickA ?_ | refine LOps.storeA ?_)
    exact ⟨_, LRes.one rfl, rfl, hle⟩
  have hz : x.op.writes.length = y.op.writes.length ∧ (x.op.writes = y.op.writes → x = y) := by
    obtain ⟨a1, a2, a3, ⟨a4, a5, a6, a7, a8, a9, a10⟩⟩ := x
    obtain ⟨c1, c2, c3, ⟨c4, c5, c6, c7, c8, c9, c10⟩⟩ := y
    simp only [List.length_map] at h
    simp at h
    obtain ⟨⟨⟨⟨⟨⟨⟨⟨⟨h1, h2⟩, h3⟩, h4⟩, h5⟩, h6⟩, h7⟩, h8⟩, h9⟩, h10⟩ := h
    refine ⟨by simp only; omega, ?_⟩
    rintro ⟨⟩
    rw [h1, h2, h3, h4, h5, h6, h7, h8, h9]
  obtain ⟨hlen, heq⟩ := hz
  clear h
  have hmx : (x.op.writes.map wrL).length = x.op.writes.length := List.length_map ..
  have hmy : (y.op.writes.map wrL).length = y.op.writes.length := List.length_map ..
  repeat (first | refine LOps.nil ?_ | refine andThen_normal ?_ | refine andThen_exit ?_ | refine andThen_ret ?_ | refine inBlock_normal ?_ | refine inBlock_ret ?_ | refine inBlock_here ?_ | refine inBlock_out rfl ?_ | refine LWp.seq ?_ | refine LWp.region ?_ | refine LWp.block ?_ | refine LWp.exit ?_ | refine LWp.ret ?_ | refine LWp.skip ?_ | refine LOps.valA ?_ | refine LOps.outA ?_ | refine LOps.whenA ?_ | refine LOps.pickA ?_ | refine LOps.storeA ?_)
  refine LWp.loop (fun m T S' => S' = S2 ∧ ∃ T' j, j ≤ x.op.writes.length ∧ m = x.op.writes.length - j ∧ x.op.writes.take j = y.op.writes.take j ∧ T = over T' [(5, ptr b5), (6, ptr b6), (7, .one (iv (j : Nat)))]) x.op.writes.length ?_ ?_
  · exact ⟨rfl, _, 0, by omega, by omega, by simp, holds.over ⟨rfl, rfl, rfl, trivial⟩⟩
  rintro m T S' ⟨rfl, T', j, hj, rfl, hs, rfl⟩
  repeat (first | refine LOps.nil ?_ | refine andThen_normal ?_ | refine andThen_exit ?_ | refine andThen_ret ?_ | refine inBlock_normal ?_ | refine inBlock_ret ?_ | refine inBlock_here ?_ | refine inBlock_out rfl ?_ | refine LWp.seq ?_ | refine LWp.region ?_ | refine LWp.block ?_ | refine LWp.exit ?_ | refine LWp.ret ?_ | refine LWp.skip ?_ | refine LOps.valA ?_ | refine LOps.outA ?_ | refine LOps.whenA ?_ | refine LOps.pickA ?_ | refine LOps.storeA ?_)
  refine LWp.cond rfl (fun h => ?_) (fun h => ?_)
  · have hlt : j < x.op.writes.length := by simpa using h
    have hltb : j < y.op.writes.length := by omega
    repeat (first | refine LOps.nil ?_ | refine andThen_normal ?_ | refine andThen_exit ?_ | refine andThen_ret ?_ | refine inBlock_normal ?_ | refine inBlock_ret ?_ | refine inBlock_here ?_ | refine inBlock_out rfl ?_ | refine LWp.seq ?_ | refine LWp.region ?_ | refine LWp.block ?_ | refine LWp.exit ?_ | refine LWp.ret ?_ | refine LWp.skip ?_ | refine LOps.valA ?_ | refine LOps.outA ?_ | refine LOps.whenA ?_ | refine LOps.pickA ?_ | refine LOps.storeA ?_)
    refine LWp.drawL [0, 1, 2, 3, 4, 5, 6, 7, 8, 9, 10] (by rw [hP]; rfl) rfl ?_
    repeat (first | refine LRl.nil ?_ | refine LRl.valA ?_ | refine LRl.outA ?_ | refine LRl.whenA ?_ | refine LRl.pickA ?_)
    repeat (first | refine LOps.nil ?_ | refine andThen_normal ?_ | refine andThen_exit ?_ | refine andThen_ret ?_ | refine inBlock_normal ?_ | refine inBlock_ret ?_ | refine inBlock_here ?_ | refine inBlock_out rfl ?_ | refine LWp.seq ?_ | refine LWp.region ?_ | refine LWp.block ?_ | refine LWp.exit ?_ | refine LWp.ret ?_ | refine LWp.skip ?_ | refine LOps.valA ?_ | refine LOps.outA ?_ | refine LOps.whenA ?_ | refine LOps.pickA ?_ | refine LOps.storeA ?_)
    refine LWp.cond rfl (fun h => ?_) (fun h => ?_)
    · repeat (first | refine LOps.nil ?_ | refine andThen_normal ?_ | refine andThen_exit ?_ | refine andThen_ret ?_ | refine inBlock_normal ?_ | refine inBlock_ret ?_ | refine inBlock_here ?_ | refine inBlock_out rfl ?_ | refine LWp.seq ?_ | refine LWp.region ?_ | refine LWp.block ?_ | refine LWp.exit ?_ | refine LWp.ret ?_ | refine LWp.skip ?_ | refine LOps.valA ?_ | refine LOps.outA ?_ | refine LOps.whenA ?_ | refine LOps.pickA ?_ | refine LOps.storeA ?_)
      refine ⟨_, LRes.one rfl, ?_, hle⟩
      have : x.op.writes[j] ≠ y.op.writes[j] := fun e => by rw [wr_eq, e] at h; simp at h
      have : x ≠ y := fun e => this (by simp [e])
      simp [this]; rfl
    · repeat (first | refine LOps.nil ?_ | refine andThen_normal ?_ | refine andThen_exit ?_ | refine andThen_ret ?_ | refine inBlock_normal ?_ | refine inBlock_ret ?_ | refine inBlock_here ?_ | refine inBlock_out rfl ?_ | refine LWp.seq ?_ | refine LWp.region ?_ | refine LWp.block ?_ | refine LWp.exit ?_ | refine LWp.ret ?_ | refine LWp.skip ?_ | refine LOps.valA ?_ | refine LOps.outA ?_ | refine LOps.whenA ?_ | refine LOps.pickA ?_ | refine LOps.storeA ?_)
      refine ⟨x.op.writes.length - (j + 1), by omega, rfl, _, j + 1, by omega, rfl, ?_, holds.over ⟨rfl, rfl, rfl, trivial⟩⟩
      have : x.op.writes[j] = y.op.writes[j] := by rw [wr_eq] at h; simpa using h
      rw [List.take_succ_eq_append_getElem hlt, List.take_succ_eq_append_getElem hltb, hs, this]
  · have hge : x.op.writes.length ≤ j := by simpa using h
    have hxy : x = y := heq (by rw [List.take_of_length_le hge, List.take_of_length_le (by omega)] at hs; exact hs)
    repeat (first | refine LOps.nil ?_ | refine andThen_normal ?_ | refine andThen_exit ?_ | refine andThen_ret ?_ | refine inBlock_normal ?_ | refine inBlock_ret ?_ | refine inBlock_here ?_ | refine inBlock_out rfl ?_ | refine LWp.seq ?_ | refine LWp.region ?_ | refine LWp.block ?_ | refine LWp.exit ?_ | refine LWp.ret ?_ | refine LWp.skip ?_ | refine LOps.valA ?_ | refine LOps.outA ?_ | refine LOps.whenA ?_ | refine LOps.pickA ?_ | refine LOps.storeA ?_)
    refine ⟨_, LRes.one rfl, ?_, hle⟩
    rw [decide_eq_true hxy]; rfl

set_option maxHeartbeats 8000000 in
theorem same_F {G : Ctx} (hP : G.P = Try.prog) (a b : List En) (ha : a.length < 1000000) (hw : ∀ e ∈ a, e.op.writes.length < 1000000) : LFun G 12 [.one (.sl .sh (a.map enL)), .one (.sl .sh (b.map enL))] (.one (bv (decide (a = b)))) := LFun.of fun S => by
  have hD : TabOK G.P D := by rw [hP]; exact hD0
  have hma : (a.map enL).length = a.length := List.length_map ..
  have hmb : (b.map enL).length = b.length := List.length_map ..
  refine LCalls.enter (fn := Try.f12) (by rw [hP]; exact Try.func12) rfl rfl ?_
  repeat (first | refine LOps.nil ?_ | refine andThen_normal ?_ | refine andThen_exit ?_ | refine andThen_ret ?_ | refine inBlock_normal ?_ | refine inBlock_ret ?_ | refine inBlock_here ?_ | refine inBlock_out rfl ?_ | refine LWp.seq ?_ | refine LWp.region ?_ | refine LWp.block ?_ | refine LWp.exit ?_ | refine LWp.ret ?_ | refine LWp.skip ?_ | refine LOps.valA ?_ | refine LOps.outA ?_ | refine LOps.whenA ?_ | refine LOps.pickA ?_ | refine LOps.storeA ?_)
  refine LWp.cond rfl (fun h => ?_) (fun h => ?_)
  · have hz : decide (a = b) = false := by
      rw [decide_eq_false_iff_not]
      rintro rfl
      simp at h
    rw [hz]
    repeat (first | refine LOps.nil ?_ | refine andThen_normal ?_ | refine andThen_exit ?_ | refine andThen_ret ?_ | refine inBlock_normal ?_ | refine inBlock_ret ?_ | refine inBlock_here ?_ | refine inBlock_out rfl ?_ | refine LWp.seq ?_ | refine LWp.region ?_ | refine LWp.block ?_ | refine LWp.exit ?_ | refine LWp.ret ?_ | refine LWp.skip ?_ | refine LOps.valA ?_ | refine LOps.outA ?_ | refine LOps.whenA ?_ | refine LOps.pickA ?_ | refine LOps.storeA ?_)
    exact ⟨_, LRes.one rfl, rfl, .refl _⟩
  have hlen : a.length = b.length := by simp at h; omega
  repeat (first | refine LOps.nil ?_ | refine andThen_normal ?_ | refine andThen_exit ?_ | refine andThen_ret ?_ | refine inBlock_normal ?_ | refine inBlock_ret ?_ | refine inBlock_here ?_ | refine inBlock_out rfl ?_ | refine LWp.seq ?_ | refine LWp.region ?_ | refine LWp.block ?_ | refine LWp.exit ?_ | refine LWp.ret ?_ | refine LWp.skip ?_ | refine LOps.valA ?_ | refine LOps.outA ?_ | refine LOps.whenA ?_ | refine LOps.pickA ?_ | refine LOps.storeA ?_)
  refine LWp.loop (fun m T S' => S' = S ∧ ∃ T' j, j ≤ a.length ∧ m = a.length - j ∧ a.take j = b.take j ∧ T = over T' [(0, .one (.sl .sh (a.map enL))), (1, .one (.sl .sh (b.map enL))), (5, .one (iv (j : Nat)))]) a.length ?_ ?_
  · exact ⟨rfl, _, 0, by omega, by omega, by simp, holds.over ⟨rfl, rfl, rfl, trivial⟩⟩
  rintro m T S' ⟨rfl, T', j, hj, rfl, hs, rfl⟩
  repeat (first | refine LOps.nil ?_ | refine andThen_normal ?_ | refine andThen_exit ?_ | refine andThen_ret ?_ | refine inBlock_normal ?_ | refine inBlock_ret ?_ | refine inBlock_here ?_ | refine inBlock_out rfl ?_ | refine LWp.seq ?_ | refine LWp.region ?_ | refine LWp.block ?_ | refine LWp.exit ?_ | refine LWp.ret ?_ | refine LWp.skip ?_ | refine LOps.valA ?_ | refine LOps.outA ?_ | refine LOps.whenA ?_ | refine LOps.pickA ?_ | refine LOps.storeA ?_)
  refine LWp.cond rfl (fun h => ?_) (fun h => ?_)
  · have hlt : j < a.length := by simpa using h
    have hltb : j < b.length := by omega
    have hsm := refSame_F hP a[j] b[j] (hw _ (List.getElem_mem hlt))
    repeat (first | refine LOps.nil ?_ | refine andThen_normal ?_ | refine andThen_exit ?_ | refine andThen_ret ?_ | refine inBlock_normal ?_ | refine inBlock_ret ?_ | refine inBlock_here ?_ | refine inBlock_out rfl ?_ | refine LWp.seq ?_ | refine LWp.region ?_ | refine LWp.block ?_ | refine LWp.exit ?_ | refine LWp.ret ?_ | refine LWp.skip ?_ | refine LOps.valA ?_ | refine LOps.outA ?_ | refine LOps.whenA ?_ | refine LOps.pickA ?_ | refine LOps.storeA ?_)
    refine LWp.drawL [0, 1, 2, 3, 4, 5, 6, 7, 8, 9] (by rw [hP]; rfl) rfl ?_
    repeat (first | refine LRl.valC (fun _ => (LVal.call rfl rfl (by rw [hP]; exact Try.func17) rfl (by decide) (hsm))) ?_ | refine LRl.whenC (fun _ => (LVal.call rfl rfl (by rw [hP]; exact Try.func17) rfl (by decide) (hsm))) ?_ | refine LRl.nil ?_ | refine LRl.valA ?_ | refine LRl.outA ?_ | refine LRl.whenA ?_ | refine LRl.pickA ?_)
    repeat (first | refine LOps.nil ?_ | refine andThen_normal ?_ | refine andThen_exit ?_ | refine andThen_ret ?_ | refine inBlock_normal ?_ | refine inBlock_ret ?_ | refine inBlock_here ?_ | refine inBlock_out rfl ?_ | refine LWp.seq ?_ | refine LWp.region ?_ | refine LWp.block ?_ | refine LWp.exit ?_ | refine LWp.ret ?_ | refine LWp.skip ?_ | refine LOps.valA ?_ | refine LOps.outA ?_ | refine LOps.whenA ?_ | refine LOps.pickA ?_ | refine LOps.storeA ?_)
    refine LWp.cond rfl (fun h => ?_) (fun h => ?_)
    · have h : (!decide (a[j] = b[j])) = true := h
      repeat (first | refine LOps.nil ?_ | refine andThen_normal ?_ | refine andThen_exit ?_ | refine andThen_ret ?_ | refine inBlock_normal ?_ | refine inBlock_ret ?_ | refine inBlock_here ?_ | refine inBlock_out rfl ?_ | refine LWp.seq ?_ | refine LWp.region ?_ | refine LWp.block ?_ | refine LWp.exit ?_ | refine LWp.ret ?_ | refine LWp.skip ?_ | refine LOps.valA ?_ | refine LOps.outA ?_ | refine LOps.whenA ?_ | refine LOps.pickA ?_ | refine LOps.storeA ?_)
      refine ⟨_, LRes.one rfl, ?_, .refl _⟩
      have : a ≠ b := fun e => by simp [e] at h
      simp [this]; rfl
    · have h : (!decide (a[j] = b[j])) = false := h
      repeat (first | refine LOps.nil ?_ | refine andThen_normal ?_ | refine andThen_exit ?_ | refine andThen_ret ?_ | refine inBlock_normal ?_ | refine inBlock_ret ?_ | refine inBlock_here ?_ | refine inBlock_out rfl ?_ | refine LWp.seq ?_ | refine LWp.region ?_ | refine LWp.block ?_ | refine LWp.exit ?_ | refine LWp.ret ?_ | refine LWp.skip ?_ | refine LOps.valA ?_ | refine LOps.outA ?_ | refine LOps.whenA ?_ | refine LOps.pickA ?_ | refine LOps.storeA ?_)
      refine ⟨a.length - (j + 1), by omega, rfl, _, j + 1, by omega, rfl, ?_, holds.over ⟨rfl, rfl, rfl, trivial⟩⟩
      have : a[j] = b[j] := by simpa using h
      rw [List.take_succ_eq_append_getElem hlt, List.take_succ_eq_append_getElem hltb, hs, this]
  · have hge : a.length ≤ j := by simpa using h
    have hab : a = b := by rw [List.take_of_length_le hge, List.take_of_length_le (by omega)] at hs; exact hs
    repeat (first | refine LOps.nil ?_ | refine andThen_normal ?_ | refine andThen_exit ?_ | refine andThen_ret ?_ | refine inBlock_normal ?_ | refine inBlock_ret ?_ | refine inBlock_here ?_ | refine inBlock_out rfl ?_ | refine LWp.seq ?_ | refine LWp.region ?_ | refine LWp.block ?_ | refine LWp.exit ?_ | refine LWp.ret ?_ | refine LWp.skip ?_ | refine LOps.valA ?_ | refine LOps.outA ?_ | refine LOps.whenA ?_ | refine LOps.pickA ?_ | refine LOps.storeA ?_)
    refine ⟨_, LRes.one rfl, ?_, .refl _⟩
    rw [decide_eq_true hab]; rfl
end Go.Proofs.Ytbifiagpmoakdaa.LF
