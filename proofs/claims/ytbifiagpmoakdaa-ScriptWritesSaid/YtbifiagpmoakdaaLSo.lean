/- The program's bytes of an entry: the walk. -/
import Derived.Test.YtbifiagpmoakdaaLSn
set_option linter.unusedVariables false
set_option linter.unusedSimpArgs false
namespace Go.Proofs.Ytbifiagpmoakdaa.LF
open Go.RowKit
set_option linter.unusedVariables false

/-- An entry of moderate size. -/
structure WrB (w : Wr) : Prop where
  key : w.key.size ≤ 60001
  val : w.val.size ≤ 60001
structure EnB (x : En) : Prop where
  kind : 0 ≤ x.kind ∧ x.kind < 256
  okind : 0 ≤ x.op.kind ∧ x.op.kind < 256
  key : x.op.key.size ≤ 60001
  val : x.op.val.size ≤ 60001
  old : x.op.old.size ≤ 60001
  n : x.op.writes.length ≤ 1000000
  writes : ∀ w ∈ x.op.writes, WrB w

theorem kindB {k : Int} (h : 0 ≤ k ∧ k < 256) : ([[uv k]] : List (List LV)) = bL [UInt8.ofNat k.toNat] := by
  simp only [bL, byL, List.map_cons, List.map_nil, UInt8.toNat_ofNat']
  congr 4; omega
theorem markB_len (g : Bool) : (markB g).length = 1 := rfl
theorem wrW_len {w : Wr} (h : WrB w) : (wrW w).length ≤ 120010 := by
  have := h.key
  have := h.val
  unfold wrW
  rw [List.length_append, List.length_append, textW_len, markB_len]
  split
  · simp; omega
  · rw [textW_len]; omega
abbrev fv (f b : Nat) : TV := .one (.v (.func (.func f) #[] #[.pointer (some ⟨b, 0, none⟩)]))

set_option maxHeartbeats 8000000 in
theorem bytes_F {G : Ctx} (hP : G.P = Try.prog) (x : En) (hx : EnB x) : LFun G 20 [.agg (enL x)] (.one (.sl .sh (bL (bytesW x)))) := LFun.of fun S => by
  have hD : TabOK G.P D := by rw [hP]; exact hD0
  have hkey := hx.key
  have hval := hx.val
  have hold := hx.old
  have hml : (x.op.writes.map wrL).length = x.op.writes.length := List.length_map ..
  refine LCalls.enter (fn := Try.f20) (by rw [hP]; exact Try.func20) rfl rfl ?_
  repeat (first | refine LOps.nil ?_ | refine andThen_normal ?_ | refine andThen_exit ?_ | refine andThen_ret ?_ | refine inBlock_normal ?_ | refine inBlock_ret ?_ | refine inBlock_here ?_ | refine inBlock_out rfl ?_ | refine LWp.seq ?_ | refine LWp.region ?_ | refine LWp.block ?_ | refine LWp.exit ?_ | refine LWp.ret ?_ | refine LWp.skip ?_ | refine LOps.valA ?_ | refine LOps.outA ?_ | refine LOps.whenA ?_ | refine LOps.pickA ?_ | refine LOps.storeA ?_)
  refine LOps.do (LDo.box rfl rfl) rfl rfl rfl ?_
  rintro _ _ ⟨b1, hb1, rfl, rfl⟩
  have s1 : S.box b1 = none := hb1.box
  repeat (first | refine LOps.do (LDo.oneSlice hD rfl rfl rfl rfl rfl rfl rfl rfl rfl rfl) rfl rfl rfl ?_ | refine LOps.nil ?_ | refine andThen_normal ?_ | refine andThen_exit ?_ | refine andThen_ret ?_ | refine inBlock_normal ?_ | refine inBlock_ret ?_ | refine inBlock_here ?_ | refine inBlock_out rfl ?_ | refine LWp.seq ?_ | refine LWp.region ?_ | refine LWp.block ?_ | refine LWp.exit ?_ | refine LWp.ret ?_ | refine LWp.skip ?_ | refine LOps.valA ?_ | refine LOps.outA ?_ | refine LOps.whenA ?_ | refine LOps.pickA ?_ | refine LOps.storeA ?_)
  rintro _ _ ⟨b2, hb2, rfl, rfl⟩
  have k1 : ((S.newBox b1 (enL x)).newRow b2 5 1).box b1 = some (enL x) := box_new _ _ _
  refine LOps.do (LDo.alloc hD rfl rfl rfl) rfl rfl rfl ?_
  rintro _ _ ⟨b3, hb3, rfl, rfl⟩
  have n13 : b1 ≠ b3 := fresh_ne hb3 k1
  have le1 : S.le (S.newBox b1 (enL x)) := .newBox (.refl _) hb1 _
  have le2 : S.le ((S.newBox b1 (enL x)).newRow b2 5 1) := .newRow le1 hb2 _ _
  have s3 := le2.none hb3
  repeat (first | refine LOps.gen (fun S1 => (∃ o, ByJ S S1 b3 o [UInt8.ofNat x.kind.toNat]) ∧ S1.box b1 = some (enL x)) ⟨⟨.own b2, (le2.newBox hb3 _).setBox s3 _, by rw [box_set, ← kindB hx.kind]; rfl, row_new _ _ _ _, .fresh le1 hb2, s3⟩, (box_set_ne _ _ n13).trans ((box_new_ne _ _ n13).trans k1)⟩ ?_ | refine LOps.nil ?_ | refine andThen_normal ?_ | refine andThen_exit ?_ | refine andThen_ret ?_ | refine inBlock_normal ?_ | refine inBlock_ret ?_ | refine inBlock_here ?_ | refine inBlock_out rfl ?_ | refine LWp.seq ?_ | refine LWp.region ?_ | refine LWp.block ?_ | refine LWp.exit ?_ | refine LWp.ret ?_ | refine LWp.skip ?_ | refine LOps.valA ?_ | refine LOps.outA ?_ | refine LOps.whenA ?_ | refine LOps.pickA ?_ | refine LOps.storeA ?_)
  clear k1 le1 le2 hb2 hb3
  rintro S1 ⟨⟨o1, hJ⟩, k1⟩
  repeat (first | refine LOps.val (LVal.makeFunc (vs := [.pointer (some ⟨b3, 0, none⟩)]) rfl rfl) rfl rfl rfl ?_ | refine LWp.seq (LWp.cut 5 (fun T' S' => (∃ o, ByJ S S' b3 o (bytesW x)) ∧ ∃ T'', T' = over T'' [(3, ptr b3)]) rfl ?_ ?_) | refine LOps.nil ?_ | refine andThen_normal ?_ | refine andThen_exit ?_ | refine andThen_ret ?_ | refine inBlock_normal ?_ | refine inBlock_ret ?_ | refine inBlock_here ?_ | refine inBlock_out rfl ?_ | refine LWp.seq ?_ | refine LWp.region ?_ | refine LWp.block ?_ | refine LWp.exit ?_ | refine LWp.ret ?_ | refine LWp.skip ?_ | refine LOps.valA ?_ | refine LOps.outA ?_ | refine LOps.whenA ?_ | refine LOps.pickA ?_ | refine LOps.storeA ?_)
  · repeat (first | refine LOps.nil ?_ | refine andThen_normal ?_ | refine andThen_exit ?_ | refine andThen_ret ?_ | refine inBlock_normal ?_ | refine inBlock_ret ?_ | refine inBlock_here ?_ | refine inBlock_out rfl ?_ | refine LWp.seq ?_ | refine LWp.region ?_ | refine LWp.block ?_ | refine LWp.exit ?_ | refine LWp.ret ?_ | refine LWp.skip ?_ | refine LOps.valA ?_ | refine LOps.outA ?_ | refine LOps.whenA ?_ | refine LOps.pickA ?_ | refine LOps.storeA ?_)
    refine LWp.cond rfl (fun h => ?_) (fun h => ?_)
    · have h2 : x.kind = 2 := by simpa using h
      repeat (first | refine LOps.nil ?_ | refine andThen_normal ?_ | refine andThen_exit ?_ | refine andThen_ret ?_ | refine inBlock_normal ?_ | refine inBlock_ret ?_ | refine inBlock_here ?_ | refine inBlock_out rfl ?_ | refine LWp.seq ?_ | refine LWp.region ?_ | refine LWp.block ?_ | refine LWp.exit ?_ | refine LWp.ret ?_ | refine LWp.skip ?_ | refine LOps.valA ?_ | refine LOps.outA ?_ | refine LOps.whenA ?_ | refine LOps.pickA ?_ | refine LOps.storeA ?_)
      refine LOps.do (LDo.callV (cs := [.pointer (some ⟨b3, 0, none⟩)]) rfl rfl rfl rfl (by rw [hP]; exact Try.func28) rfl (by decide) (nm_L hP hJ (by simp) x.a 2 (by omega))) rfl rfl rfl ?_
      rintro _ S2 ⟨_, hJ, hk⟩
      have k1 := hk _ _ n13 k1
      clear hk
      repeat (first | refine LOps.nil ?_ | refine andThen_normal ?_ | refine andThen_exit ?_ | refine andThen_ret ?_ | refine inBlock_normal ?_ | refine inBlock_ret ?_ | refine inBlock_here ?_ | refine inBlock_out rfl ?_ | refine LWp.seq ?_ | refine LWp.region ?_ | refine LWp.block ?_ | refine LWp.exit ?_ | refine LWp.ret ?_ | refine LWp.skip ?_ | refine LOps.valA ?_ | refine LOps.outA ?_ | refine LOps.whenA ?_ | refine LOps.pickA ?_ | refine LOps.storeA ?_)
      exact ⟨⟨_, by simpa [bytesW, h2] using hJ⟩, _, holds.over ⟨rfl, trivial⟩⟩
    have h2 : ¬ x.kind = 2 := by simpa using h
    repeat (first | refine LOps.nil ?_ | refine andThen_normal ?_ | refine andThen_exit ?_ | refine andThen_ret ?_ | refine inBlock_normal ?_ | refine inBlock_ret ?_ | refine inBlock_here ?_ | refine inBlock_out rfl ?_ | refine LWp.seq ?_ | refine LWp.region ?_ | refine LWp.block ?_ | refine LWp.exit ?_ | refine LWp.ret ?_ | refine LWp.skip ?_ | refine LOps.valA ?_ | refine LOps.outA ?_ | refine LOps.whenA ?_ | refine LOps.pickA ?_ | refine LOps.storeA ?_)
    refine LWp.cond rfl (fun h => ?_) (fun h => ?_)
    · have h3 : x.kind = 3 := by simpa using h
      repeat (first | refine LOps.nil ?_ | refine andThen_normal ?_ | refine andThen_exit ?_ | refine andThen_ret ?_ | refine inBlock_normal ?_ | refine inBlock_ret ?_ | refine inBlock_here ?_ | refine inBlock_out rfl ?_ | refine LWp.seq ?_ | refine LWp.region ?_ | refine LWp.block ?_ | refine LWp.exit ?_ | refine LWp.ret ?_ | refine LWp.skip ?_ | refine LOps.valA ?_ | refine LOps.outA ?_ | refine LOps.whenA ?_ | refine LOps.pickA ?_ | refine LOps.storeA ?_)
      refine LOps.do (LDo.callV (cs := [.pointer (some ⟨b3, 0, none⟩)]) rfl rfl rfl rfl (by rw [hP]; exact Try.func28) rfl (by decide) (nm_L hP hJ (by simp) x.a 1 (by omega))) rfl rfl rfl ?_
      rintro _ S2 ⟨_, hJ, hk⟩
      have k1 := hk _ _ n13 k1
      clear hk
      repeat (first | refine LOps.nil ?_ | refine andThen_normal ?_ | refine andThen_exit ?_ | refine andThen_ret ?_ | refine inBlock_normal ?_ | refine inBlock_ret ?_ | refine inBlock_here ?_ | refine inBlock_out rfl ?_ | refine LWp.seq ?_ | refine LWp.region ?_ | refine LWp.block ?_ | refine LWp.exit ?_ | refine LWp.ret ?_ | refine LWp.skip ?_ | refine LOps.valA ?_ | refine LOps.outA ?_ | refine LOps.whenA ?_ | refine LOps.pickA ?_ | refine LOps.storeA ?_)
      refine LOps.do (LDo.callV (cs := [.pointer (some ⟨b3, 0, none⟩)]) rfl rfl rfl rfl (by rw [hP]; exact Try.func28) rfl (by decide) (nm_L hP hJ (by simp [numW_len]) x.b 1 (by omega))) rfl rfl rfl ?_
      rintro _ S3 ⟨_, hJ, hk⟩
      have k1 := hk _ _ n13 k1
      clear hk
      repeat (first | refine LOps.nil ?_ | refine andThen_normal ?_ | refine andThen_exit ?_ | refine andThen_ret ?_ | refine inBlock_normal ?_ | refine inBlock_ret ?_ | refine inBlock_here ?_ | refine inBlock_out rfl ?_ | refine LWp.seq ?_ | refine LWp.region ?_ | refine LWp.block ?_ | refine LWp.exit ?_ | refine LWp.ret ?_ | refine LWp.skip ?_ | refine LOps.valA ?_ | refine LOps.outA ?_ | refine LOps.whenA ?_ | refine LOps.pickA ?_ | refine LOps.storeA ?_)
      exact ⟨⟨_, by simpa [bytesW, h3] using hJ⟩, _, holds.over ⟨rfl, trivial⟩⟩
    have h3 : ¬ x.kind = 3 := by simpa using h
    repeat (first | refine LWp.seq (LWp.cut 11 (fun T' S' => S' = S1 ∧ ∃ T'', T' = over T'' [(1, ptr b1), (3, ptr b3), (4, fv 28 b3), (5, fv 29 b3), (6, fv 30 b3), (17, .one (uv x.kind)), (34, .one (bv (decide (x.kind = 4 ∨ x.kind = 5))))]) rfl ?_ ?_) | refine LOps.nil ?_ | refine andThen_normal ?_ | refine andThen_exit ?_ | refine andThen_ret ?_ | refine inBlock_normal ?_ | refine inBlock_ret ?_ | refine inBlock_here ?_ | refine inBlock_out rfl ?_ | refine LWp.seq ?_ | refine LWp.region ?_ | refine LWp.block ?_ | refine LWp.exit ?_ | refine LWp.ret ?_ | refine LWp.skip ?_ | refine LOps.valA ?_ | refine LOps.outA ?_ | refine LOps.whenA ?_ | refine LOps.pickA ?_ | refine LOps.storeA ?_)
    · repeat (first | refine LOps.nil ?_ | refine andThen_normal ?_ | refine andThen_exit ?_ | refine andThen_ret ?_ | refine inBlock_normal ?_ | refine inBlock_ret ?_ | refine inBlock_here ?_ | refine inBlock_out rfl ?_ | refine LWp.seq ?_ | refine LWp.region ?_ | refine LWp.block ?_ | refine LWp.exit ?_ | refine LWp.ret ?_ | refine LWp.skip ?_ | refine LOps.valA ?_ | refine LOps.outA ?_ | refine LOps.whenA ?_ | refine LOps.pickA ?_ | refine LOps.storeA ?_)
      refine LWp.cond rfl (fun h => ?_) (fun h => ?_)
      · have h4 : x.kind = 4 := by simpa using h
        repeat (first | refine LOps.nil ?_ | refine andThen_normal ?_ | refine andThen_exit ?_ | refine andThen_ret ?_ | refine inBlock_normal ?_ | refine inBlock_ret ?_ | refine inBlock_here ?_ | refine inBlock_out rfl ?_ | refine LWp.seq ?_ | refine LWp.region ?_ | refine LWp.block ?_ | refine LWp.exit ?_ | refine LWp.ret ?_ | refine LWp.skip ?_ | refine LOps.valA ?_ | refine LOps.outA ?_ | refine LOps.whenA ?_ | refine LOps.pickA ?_ | refine LOps.storeA ?_)
        refine ⟨rfl, _, holds.over ⟨rfl, rfl, rfl, rfl, rfl, rfl, ?_, trivial⟩⟩
        have : decide (x.kind = 4 ∨ x.kind = 5) = (x.kind == 4) := by simp [h4]
        rw [this]; rfl
      · have h4 : ¬ x.kind = 4 := by simpa using h
        repeat (first | refine LOps.nil ?_ | refine andThen_normal ?_ | refine andThen_exit ?_ | refine andThen_ret ?_ | refine inBlock_normal ?_ | refine inBlock_ret ?_ | refine inBlock_here ?_ | refine inBlock_out rfl ?_ | refine LWp.seq ?_ | refine LWp.region ?_ | refine LWp.block ?_ | refine LWp.exit ?_ | refine LWp.ret ?_ | refine LWp.skip ?_ | refine LOps.valA ?_ | refine LOps.outA ?_ | refine LOps.whenA ?_ | refine LOps.pickA ?_ | refine LOps.storeA ?_)
        refine ⟨rfl, _, holds.over ⟨rfl, rfl, rfl, rfl, rfl, rfl, ?_, trivial⟩⟩
        have : decide (x.kind = 4 ∨ x.kind = 5) = (x.kind == 5) := by by_cases h5 : x.kind = 5 <;> simp [h4, h5]
        rw [this]; rfl
    rintro T' _ ⟨rfl, T'', rfl⟩
    repeat (first | refine LOps.nil ?_ | refine andThen_normal ?_ | refine andThen_exit ?_ | refine andThen_ret ?_ | refine inBlock_normal ?_ | refine inBlock_ret ?_ | refine inBlock_here ?_ | refine inBlock_out rfl ?_ | refine LWp.seq ?_ | refine LWp.region ?_ | refine LWp.block ?_ | refine LWp.exit ?_ | refine LWp.ret ?_ | refine LWp.skip ?_ | refine LOps.valA ?_ | refine LOps.outA ?_ | refine LOps.whenA ?_ | refine LOps.pickA ?_ | refine LOps.storeA ?_)
    refine LWp.cond rfl (fun h => ?_) (fun h => ?_)
    · have h4 : x.kind = 4 ∨ x.kind = 5 := by simpa using h
      repeat (first | refine LOps.nil ?_ | refine andThen_normal ?_ | refine andThen_exit ?_ | refine andThen_ret ?_ | refine inBlock_normal ?_ | refine inBlock_ret ?_ | refine inBlock_here ?_ | refine inBlock_out rfl ?_ | refine LWp.seq ?_ | refine LWp.region ?_ | refine LWp.block ?_ | refine LWp.exit ?_ | refine LWp.ret ?_ | refine LWp.skip ?_ | refine LOps.valA ?_ | refine LOps.outA ?_ | refine LOps.whenA ?_ | refine LOps.pickA ?_ | refine LOps.storeA ?_)
      refine LOps.do (LDo.callV (cs := [.pointer (some ⟨b3, 0, none⟩)]) rfl rfl rfl rfl (by rw [hP]; exact Try.func28) rfl (by decide) (nm_L hP hJ (by simp) x.a 1 (by omega))) rfl rfl rfl ?_
      rintro _ S2 ⟨_, hJ, hk⟩
      have k1 := hk _ _ n13 k1
      clear hk
      repeat (first | refine LOps.nil ?_ | refine andThen_normal ?_ | refine andThen_exit ?_ | refine andThen_ret ?_ | refine inBlock_normal ?_ | refine inBlock_ret ?_ | refine inBlock_here ?_ | refine inBlock_out rfl ?_ | refine LWp.seq ?_ | refine LWp.region ?_ | refine LWp.block ?_ | refine LWp.exit ?_ | refine LWp.ret ?_ | refine LWp.skip ?_ | refine LOps.valA ?_ | refine LOps.outA ?_ | refine LOps.whenA ?_ | refine LOps.pickA ?_ | refine LOps.storeA ?_)
      exact ⟨⟨_, by simpa [bytesW, h2, h3, h4] using hJ⟩, _, holds.over ⟨rfl, trivial⟩⟩
    have h4 : ¬ (x.kind = 4 ∨ x.kind = 5) := by simpa using h
    repeat (first | refine LOps.nil ?_ | refine andThen_normal ?_ | refine andThen_exit ?_ | refine andThen_ret ?_ | refine inBlock_normal ?_ | refine inBlock_ret ?_ | refine inBlock_here ?_ | refine inBlock_out rfl ?_ | refine LWp.seq ?_ | refine LWp.region ?_ | refine LWp.block ?_ | refine LWp.exit ?_ | refine LWp.ret ?_ | refine LWp.skip ?_ | refine LOps.valA ?_ | refine LOps.outA ?_ | refine LOps.whenA ?_ | refine LOps.pickA ?_ | refine LOps.storeA ?_)
    refine LWp.cond rfl (fun h => ?_) (fun h => ?_)
    · have h6 : x.kind = 6 := by simpa using h
      repeat (first | refine LOps.nil ?_ | refine andThen_normal ?_ | refine andThen_exit ?_ | refine andThen_ret ?_ | refine inBlock_normal ?_ | refine inBlock_ret ?_ | refine inBlock_here ?_ | refine inBlock_out rfl ?_ | refine LWp.seq ?_ | refine LWp.region ?_ | refine LWp.block ?_ | refine LWp.exit ?_ | refine LWp.ret ?_ | refine LWp.skip ?_ | refine LOps.valA ?_ | refine LOps.outA ?_ | refine LOps.whenA ?_ | refine LOps.pickA ?_ | refine LOps.storeA ?_)
      refine LOps.do (LDo.callV (cs := [.pointer (some ⟨b3, 0, none⟩)]) rfl rfl rfl rfl (by rw [hP]; exact Try.func28) rfl (by decide) (nm_L hP hJ (by simp) x.a 4 (by omega))) rfl rfl rfl ?_
      rintro _ S2 ⟨_, hJ, hk⟩
      have k1 := hk _ _ n13 k1
      clear hk
      repeat (first | refine LOps.nil ?_ | refine andThen_normal ?_ | refine andThen_exit ?_ | refine andThen_ret ?_ | refine inBlock_normal ?_ | refine inBlock_ret ?_ | refine inBlock_here ?_ | refine inBlock_out rfl ?_ | refine LWp.seq ?_ | refine LWp.region ?_ | refine LWp.block ?_ | refine LWp.exit ?_ | refine LWp.ret ?_ | refine LWp.skip ?_ | refine LOps.valA ?_ | refine LOps.outA ?_ | refine LOps.whenA ?_ | refine LOps.pickA ?_ | refine LOps.storeA ?_)
      exact ⟨⟨_, by simpa [bytesW, h6] using hJ⟩, _, holds.over ⟨rfl, trivial⟩⟩
    have h6 : ¬ x.kind = 6 := by simpa using h
    repeat (first | refine LOps.nil ?_ | refine andThen_normal ?_ | refine andThen_exit ?_ | refine andThen_ret ?_ | refine inBlock_normal ?_ | refine inBlock_ret ?_ | refine inBlock_here ?_ | refine inBlock_out rfl ?_ | refine LWp.seq ?_ | refine LWp.region ?_ | refine LWp.block ?_ | refine LWp.exit ?_ | refine LWp.ret ?_ | refine LWp.skip ?_ | refine LOps.valA ?_ | refine LOps.outA ?_ | refine LOps.whenA ?_ | refine LOps.pickA ?_ | refine LOps.storeA ?_)
    refine LWp.cond rfl (fun h => ?_) (fun h => ?_)
    · have h1 : x.kind = 1 := by simpa using h
      have hb : bytesW x = [UInt8.ofNat x.kind.toNat] ++ opW1 x.op := by simp [bytesW, h1]
      repeat (first | refine LOps.nil ?_ | refine andThen_normal ?_ | refine andThen_exit ?_ | refine andThen_ret ?_ | refine inBlock_normal ?_ | refine inBlock_ret ?_ | refine inBlock_here ?_ | refine inBlock_out rfl ?_ | refine LWp.seq ?_ | refine LWp.region ?_ | refine LWp.block ?_ | refine LWp.exit ?_ | refine LWp.ret ?_ | refine LWp.skip ?_ | refine LOps.valA ?_ | refine LOps.outA ?_ | refine LOps.whenA ?_ | refine LOps.pickA ?_ | refine LOps.storeA ?_)
      refine LOps.do (LDo.alloc hD rfl rfl rfl) rfl rfl rfl ?_
      rintro _ _ ⟨b7, hb7, rfl, rfl⟩
      have n17 : b1 ≠ b7 := fresh_ne hb7 k1
      have n37 : b3 ≠ b7 := fresh_ne hb7 hJ.kb
      have n73 : b7 ≠ b3 := n37.symm
      have s7 := hJ.le.none hb7
      repeat (first | refine LOps.gen (fun S2 => (∃ o, ByJ S S2 b3 o [UInt8.ofNat x.kind.toNat]) ∧ S2.box b7 = some (opL x.op)) ⟨⟨o1, (hJ.new hb7 _).put n37 s7 _⟩, box_set _ _ _⟩ ?_ | refine LOps.nil ?_ | refine andThen_normal ?_ | refine andThen_exit ?_ | refine andThen_ret ?_ | refine inBlock_normal ?_ | refine inBlock_ret ?_ | refine inBlock_here ?_ | refine inBlock_out rfl ?_ | refine LWp.seq ?_ | refine LWp.region ?_ | refine LWp.block ?_ | refine LWp.exit ?_ | refine LWp.ret ?_ | refine LWp.skip ?_ | refine LOps.valA ?_ | refine LOps.outA ?_ | refine LOps.whenA ?_ | refine LOps.pickA ?_ | refine LOps.storeA ?_)
      clear hJ k1 hb7
      rintro S2 ⟨⟨o2, hJ⟩, k7⟩
      have kb := hJ.kb
      repeat (first | refine LOps.nil ?_ | refine andThen_normal ?_ | refine andThen_exit ?_ | refine andThen_ret ?_ | refine inBlock_normal ?_ | refine inBlock_ret ?_ | refine inBlock_here ?_ | refine inBlock_out rfl ?_ | refine LWp.seq ?_ | refine LWp.region ?_ | refine LWp.block ?_ | refine LWp.exit ?_ | refine LWp.ret ?_ | refine LWp.skip ?_ | refine LOps.valA ?_ | refine LOps.outA ?_ | refine LOps.whenA ?_ | refine LOps.pickA ?_ | refine LOps.storeA ?_)
      refine LOps.do (LDo.push hD rfl rfl rfl rfl rfl rfl rfl rfl rfl rfl rfl hJ.own (by simp)) rfl rfl rfl ?_
      rintro _ S3 ⟨o3, rfl, own3, hup, hno⟩
      have kb3 := hup.box _ _ kb
      have hA := hJ.app (bs1 := [UInt8.ofNat x.kind.toNat] ++ [UInt8.ofNat x.op.kind.toNat]) (own3.ofN rfl) hup hno
      have eA : bL ([UInt8.ofNat x.kind.toNat] ++ [UInt8.ofNat x.op.kind.toNat]) = bL [UInt8.ofNat x.kind.toNat] ++ [[uv x.op.kind]] := by rw [kindB hx.okind]; simp [bL]
      rw [eA] at hA
      have k7 := hA.2 _ _ n73 k7
      repeat (first | refine LOps.gen (fun S4 => (∃ o, ByJ S S4 b3 o ([UInt8.ofNat x.kind.toNat] ++ [UInt8.ofNat x.op.kind.toNat])) ∧ S4.box b7 = some (opL x.op)) ⟨⟨_, hA.1⟩, k7⟩ ?_ | refine LOps.nil ?_ | refine andThen_normal ?_ | refine andThen_exit ?_ | refine andThen_ret ?_ | refine inBlock_normal ?_ | refine inBlock_ret ?_ | refine inBlock_here ?_ | refine inBlock_out rfl ?_ | refine LWp.seq ?_ | refine LWp.region ?_ | refine LWp.block ?_ | refine LWp.exit ?_ | refine LWp.ret ?_ | refine LWp.skip ?_ | refine LOps.valA ?_ | refine LOps.outA ?_ | refine LOps.whenA ?_ | refine LOps.pickA ?_ | refine LOps.storeA ?_)
      clear hA k7 kb3 hup hno own3 kb hJ
      rintro S4 ⟨⟨o4, hJ⟩, k7⟩
      repeat (first | refine LWp.seq (LWp.cut 19 (fun T' S' => (∃ o, ByJ S S' b3 o ([UInt8.ofNat x.kind.toNat] ++ [UInt8.ofNat x.op.kind.toNat] ++ (if x.op.kind = 6 then [] else textW x.op.key))) ∧ S'.box b7 = some (opL x.op) ∧ ∃ T'', T' = over T'' [(3, ptr b3), (4, fv 28 b3), (5, fv 29 b3), (6, fv 30 b3), (7, ptr b7)]) rfl ?_ ?_) | refine LOps.nil ?_ | refine andThen_normal ?_ | refine andThen_exit ?_ | refine andThen_ret ?_ | refine inBlock_normal ?_ | refine inBlock_ret ?_ | refine inBlock_here ?_ | refine inBlock_out rfl ?_ | refine LWp.seq ?_ | refine LWp.region ?_ | refine LWp.block ?_ | refine LWp.exit ?_ | refine LWp.ret ?_ | refine LWp.skip ?_ | refine LOps.valA ?_ | refine LOps.outA ?_ | refine LOps.whenA ?_ | refine LOps.pickA ?_ | refine LOps.storeA ?_)
      · repeat (first | refine LOps.nil ?_ | refine andThen_normal ?_ | refine andThen_exit ?_ | refine andThen_ret ?_ | refine inBlock_normal ?_ | refine inBlock_ret ?_ | refine inBlock_here ?_ | refine inBlock_out rfl ?_ | refine LWp.seq ?_ | refine LWp.region ?_ | refine LWp.block ?_ | refine LWp.exit ?_ | refine LWp.ret ?_ | refine LWp.skip ?_ | refine LOps.valA ?_ | refine LOps.outA ?_ | refine LOps.whenA ?_ | refine LOps.pickA ?_ | refine LOps.storeA ?_)
        refine LWp.cond rfl (fun h => ?_) (fun h => ?_)
        · have h6 : ¬ x.op.kind = 6 := by simpa using h
          repeat (first | refine LOps.nil ?_ | refine andThen_normal ?_ | refine andThen_exit ?_ | refine andThen_ret ?_ | refine inBlock_normal ?_ | refine inBlock_ret ?_ | refine inBlock_here ?_ | refine inBlock_out rfl ?_ | refine LWp.seq ?_ | refine LWp.region ?_ | refine LWp.block ?_ | refine LWp.exit ?_ | refine LWp.ret ?_ | refine LWp.skip ?_ | refine LOps.valA ?_ | refine LOps.outA ?_ | refine LOps.whenA ?_ | refine LOps.pickA ?_ | refine LOps.storeA ?_)
          refine LOps.do (LDo.callV (cs := [.pointer (some ⟨b3, 0, none⟩)]) rfl rfl rfl rfl (by rw [hP]; exact Try.func29) rfl (by decide) (tx_L hP hJ (by simp) x.op.key (by omega))) rfl rfl rfl ?_
          rintro _ S5 ⟨_, hJ, hk⟩
          have k7 := hk _ _ n73 k7
          clear hk
          repeat (first | refine LOps.nil ?_ | refine andThen_normal ?_ | refine andThen_exit ?_ | refine andThen_ret ?_ | refine inBlock_normal ?_ | refine inBlock_ret ?_ | refine inBlock_here ?_ | refine inBlock_out rfl ?_ | refine LWp.seq ?_ | refine LWp.region ?_ | refine LWp.block ?_ | refine LWp.exit ?_ | refine LWp.ret ?_ | refine LWp.skip ?_ | refine LOps.valA ?_ | refine LOps.outA ?_ | refine LOps.whenA ?_ | refine LOps.pickA ?_ | refine LOps.storeA ?_)
          exact ⟨⟨_, by simpa [h6] using hJ⟩, k7, _, holds.over ⟨rfl, rfl, rfl, rfl, rfl, trivial⟩⟩
        · have h6 : x.op.kind = 6 := by simpa using h
          repeat (first | refine LOps.nil ?_ | refine andThen_normal ?_ | refine andThen_exit ?_ | refine andThen_ret ?_ | refine inBlock_normal ?_ | refine inBlock_ret ?_ | refine inBlock_here ?_ | refine inBlock_out rfl ?_ | refine LWp.seq ?_ | refine LWp.region ?_ | refine LWp.block ?_ | refine LWp.exit ?_ | refine LWp.ret ?_ | refine LWp.skip ?_ | refine LOps.valA ?_ | refine LOps.outA ?_ | refine LOps.whenA ?_ | refine LOps.pickA ?_ | refine LOps.storeA ?_)
          exact ⟨⟨_, by simpa [h6] using hJ⟩, k7, _, holds.over ⟨rfl, rfl, rfl, rfl, rfl, trivial⟩⟩
      clear hJ k7
      rintro T' S5 ⟨⟨o5, hJ⟩, k7, T'', rfl⟩
      have hbig : ([UInt8.ofNat x.kind.toNat] ++ [UInt8.ofNat x.op.kind.toNat] ++ (if x.op.kind = 6 then [] else textW x.op.key)).length ≤ 60004 := by
        rw [List.length_append]
        split
        · simp
        · rw [textW_len]; simp; omega
      have hb : bytesW x = ([UInt8.ofNat x.kind.toNat] ++ [UInt8.ofNat x.op.kind.toNat] ++ (if x.op.kind = 6 then [] else textW x.op.key)) ++ opW2 x.op := by
        rw [hb]; simp [opW1]
      generalize ([UInt8.ofNat x.kind.toNat] ++ [UInt8.ofNat x.op.kind.toNat] ++ (if x.op.kind = 6 then [] else textW x.op.key)) = pre at hJ hbig hb
      rw [hb]
      repeat (first | refine LOps.nil ?_ | refine andThen_normal ?_ | refine andThen_exit ?_ | refine andThen_ret ?_ | refine inBlock_normal ?_ | refine inBlock_ret ?_ | refine inBlock_here ?_ | refine inBlock_out rfl ?_ | refine LWp.seq ?_ | refine LWp.region ?_ | refine LWp.block ?_ | refine LWp.exit ?_ | refine LWp.ret ?_ | refine LWp.skip ?_ | refine LOps.valA ?_ | refine LOps.outA ?_ | refine LOps.whenA ?_ | refine LOps.pickA ?_ | refine LOps.storeA ?_)
      refine LWp.cond rfl (fun h => ?_) (fun h => ?_)
      · have g2 : x.op.kind = 2 := by simpa using h
        repeat (first | refine LOps.nil ?_ | refine andThen_normal ?_ | refine andThen_exit ?_ | refine andThen_ret ?_ | refine inBlock_normal ?_ | refine inBlock_ret ?_ | refine inBlock_here ?_ | refine inBlock_out rfl ?_ | refine LWp.seq ?_ | refine LWp.region ?_ | refine LWp.block ?_ | refine LWp.exit ?_ | refine LWp.ret ?_ | refine LWp.skip ?_ | refine LOps.valA ?_ | refine LOps.outA ?_ | refine LOps.whenA ?_ | refine LOps.pickA ?_ | refine LOps.storeA ?_)
        refine LOps.do (LDo.callV (cs := [.pointer (some ⟨b3, 0, none⟩)]) rfl rfl rfl rfl (by rw [hP]; exact Try.func29) rfl (by decide) (tx_L hP hJ (by omega) x.op.val (by omega))) rfl rfl rfl ?_
        rintro _ S6 ⟨_, hJ, hk⟩
        clear hk
        repeat (first | refine LOps.nil ?_ | refine andThen_normal ?_ | refine andThen_exit ?_ | refine andThen_ret ?_ | refine inBlock_normal ?_ | refine inBlock_ret ?_ | refine inBlock_here ?_ | refine inBlock_out rfl ?_ | refine LWp.seq ?_ | refine LWp.region ?_ | refine LWp.block ?_ | refine LWp.exit ?_ | refine LWp.ret ?_ | refine LWp.skip ?_ | refine LOps.valA ?_ | refine LOps.outA ?_ | refine LOps.whenA ?_ | refine LOps.pickA ?_ | refine LOps.storeA ?_)
        exact ⟨⟨_, by simpa [opW2, g2] using hJ⟩, _, holds.over ⟨rfl, trivial⟩⟩
      have g2 : ¬ x.op.kind = 2 := by simpa using h
      repeat (first | refine LOps.nil ?_ | refine andThen_normal ?_ | refine andThen_exit ?_ | refine andThen_ret ?_ | refine inBlock_normal ?_ | refine inBlock_ret ?_ | refine inBlock_here ?_ | refine inBlock_out rfl ?_ | refine LWp.seq ?_ | refine LWp.region ?_ | refine LWp.block ?_ | refine LWp.exit ?_ | refine LWp.ret ?_ | refine LWp.skip ?_ | refine LOps.valA ?_ | refine LOps.outA ?_ | refine LOps.whenA ?_ | refine LOps.pickA ?_ | refine LOps.storeA ?_)
      refine LWp.cond rfl (fun h => ?_) (fun h => ?_)
      · have g4 : x.op.kind = 4 := by simpa using h
        repeat (first | refine LOps.nil ?_ | refine andThen_normal ?_ | refine andThen_exit ?_ | refine andThen_ret ?_ | refine inBlock_normal ?_ | refine inBlock_ret ?_ | refine inBlock_here ?_ | refine inBlock_out rfl ?_ | refine LWp.seq ?_ | refine LWp.region ?_ | refine LWp.block ?_ | refine LWp.exit ?_ | refine LWp.ret ?_ | refine LWp.skip ?_ | refine LOps.valA ?_ | refine LOps.outA ?_ | refine LOps.whenA ?_ | refine LOps.pickA ?_ | refine LOps.storeA ?_)
        refine LOps.do (LDo.callV (cs := [.pointer (some ⟨b3, 0, none⟩)]) rfl rfl rfl rfl (by rw [hP]; exact Try.func29) rfl (by decide) (tx_L hP hJ (by omega) x.op.val (by omega))) rfl rfl rfl ?_
        rintro _ S6 ⟨_, hJ, hk⟩
        have k7 := hk _ _ n73 k7
        clear hk
        repeat (first | refine LOps.nil ?_ | refine andThen_normal ?_ | refine andThen_exit ?_ | refine andThen_ret ?_ | refine inBlock_normal ?_ | refine inBlock_ret ?_ | refine inBlock_here ?_ | refine inBlock_out rfl ?_ | refine LWp.seq ?_ | refine LWp.region ?_ | refine LWp.block ?_ | refine LWp.exit ?_ | refine LWp.ret ?_ | refine LWp.skip ?_ | refine LOps.valA ?_ | refine LOps.outA ?_ | refine LOps.whenA ?_ | refine LOps.pickA ?_ | refine LOps.storeA ?_)
        refine LOps.do (LDo.callV (cs := [.pointer (some ⟨b3, 0, none⟩)]) rfl rfl rfl rfl (by rw [hP]; exact Try.func30) rfl (by decide) (mk_L hP hJ (by rw [List.length_append, textW_len]; omega) x.op.had)) rfl rfl rfl ?_
        rintro _ S7 ⟨_, hJ, hk⟩
        have k7 := hk _ _ n73 k7
        clear hk
        repeat (first | refine LOps.nil ?_ | refine andThen_normal ?_ | refine andThen_exit ?_ | refine andThen_ret ?_ | refine inBlock_normal ?_ | refine inBlock_ret ?_ | refine inBlock_here ?_ | refine inBlock_out rfl ?_ | refine LWp.seq ?_ | refine LWp.region ?_ | refine LWp.block ?_ | refine LWp.exit ?_ | refine LWp.ret ?_ | refine LWp.skip ?_ | refine LOps.valA ?_ | refine LOps.outA ?_ | refine LOps.whenA ?_ | refine LOps.pickA ?_ | refine LOps.storeA ?_)
        refine LWp.cond rfl (fun h => ?_) (fun h => ?_)
        · have hh : x.op.had = true := h
          repeat (first | refine LOps.nil ?_ | refine andThen_normal ?_ | refine andThen_exit ?_ | refine andThen_ret ?_ | refine inBlock_normal ?_ | refine inBlock_ret ?_ | refine inBlock_here ?_ | refine inBlock_out rfl ?_ | refine LWp.seq ?_ | refine LWp.region ?_ | refine LWp.block ?_ | refine LWp.exit ?_ | refine LWp.ret ?_ | refine LWp.skip ?_ | refine LOps.valA ?_ | refine LOps.outA ?_ | refine LOps.whenA ?_ | refine LOps.pickA ?_ | refine LOps.storeA ?_)
          refine LOps.do (LDo.callV (cs := [.pointer (some ⟨b3, 0, none⟩)]) rfl rfl rfl rfl (by rw [hP]; exact Try.func29) rfl (by decide) (tx_L hP hJ (by rw [List.length_append, List.length_append, textW_len, markB_len]; omega) x.op.old (by omega))) rfl rfl rfl ?_
          rintro _ S8 ⟨_, hJ, hk⟩
          clear hk
          repeat (first | refine LOps.nil ?_ | refine andThen_normal ?_ | refine andThen_exit ?_ | refine andThen_ret ?_ | refine inBlock_normal ?_ | refine inBlock_ret ?_ | refine inBlock_here ?_ | refine inBlock_out rfl ?_ | refine LWp.seq ?_ | refine LWp.region ?_ | refine LWp.block ?_ | refine LWp.exit ?_ | refine LWp.ret ?_ | refine LWp.skip ?_ | refine LOps.valA ?_ | refine LOps.outA ?_ | refine LOps.whenA ?_ | refine LOps.pickA ?_ | refine LOps.storeA ?_)
          exact ⟨⟨_, by simpa [opW2, g4, hh] using hJ⟩, _, holds.over ⟨rfl, trivial⟩⟩
        · have hh : x.op.had = false := h
          repeat (first | refine LOps.nil ?_ | refine andThen_normal ?_ | refine andThen_exit ?_ | refine andThen_ret ?_ | refine inBlock_normal ?_ | refine inBlock_ret ?_ | refine inBlock_here ?_ | refine inBlock_out rfl ?_ | refine LWp.seq ?_ | refine LWp.region ?_ | refine LWp.block ?_ | refine LWp.exit ?_ | refine LWp.ret ?_ | refine LWp.skip ?_ | refine LOps.valA ?_ | refine LOps.outA ?_ | refine LOps.whenA ?_ | refine LOps.pickA ?_ | refine LOps.storeA ?_)
          exact ⟨⟨_, by simpa [opW2, g4, hh] using hJ⟩, _, holds.over ⟨rfl, trivial⟩⟩
      have g4 : ¬ x.op.kind = 4 := by simpa using h
      repeat (first | refine LOps.nil ?_ | refine andThen_normal ?_ | refine andThen_exit ?_ | refine andThen_ret ?_ | refine inBlock_normal ?_ | refine inBlock_ret ?_ | refine inBlock_here ?_ | refine inBlock_out rfl ?_ | refine LWp.seq ?_ | refine LWp.region ?_ | refine LWp.block ?_ | refine LWp.exit ?_ | refine LWp.ret ?_ | refine LWp.skip ?_ | refine LOps.valA ?_ | refine LOps.outA ?_ | refine LOps.whenA ?_ | refine LOps.pickA ?_ | refine LOps.storeA ?_)
      refine LWp.cond rfl (fun h => ?_) (fun h => ?_)
      · have g5 : x.op.kind = 5 := by simpa using h
        repeat (first | refine LOps.nil ?_ | refine andThen_normal ?_ | refine andThen_exit ?_ | refine andThen_ret ?_ | refine inBlock_normal ?_ | refine inBlock_ret ?_ | refine inBlock_here ?_ | refine inBlock_out rfl ?_ | refine LWp.seq ?_ | refine LWp.region ?_ | refine LWp.block ?_ | refine LWp.exit ?_ | refine LWp.ret ?_ | refine LWp.skip ?_ | refine LOps.valA ?_ | refine LOps.outA ?_ | refine LOps.whenA ?_ | refine LOps.pickA ?_ | refine LOps.storeA ?_)
        refine LOps.do (LDo.callV (cs := [.pointer (some ⟨b3, 0, none⟩)]) rfl rfl rfl rfl (by rw [hP]; exact Try.func30) rfl (by decide) (mk_L hP hJ (by omega) x.op.after)) rfl rfl rfl ?_
        rintro _ S6 ⟨_, hJ, hk⟩
        clear hk
        repeat (first | refine LOps.nil ?_ | refine andThen_normal ?_ | refine andThen_exit ?_ | refine andThen_ret ?_ | refine inBlock_normal ?_ | refine inBlock_ret ?_ | refine inBlock_here ?_ | refine inBlock_out rfl ?_ | refine LWp.seq ?_ | refine LWp.region ?_ | refine LWp.block ?_ | refine LWp.exit ?_ | refine LWp.ret ?_ | refine LWp.skip ?_ | refine LOps.valA ?_ | refine LOps.outA ?_ | refine LOps.whenA ?_ | refine LOps.pickA ?_ | refine LOps.storeA ?_)
        exact ⟨⟨_, by simpa [opW2, g5] using hJ⟩, _, holds.over ⟨rfl, trivial⟩⟩
      have g5 : ¬ x.op.kind = 5 := by simpa using h
      repeat (first | refine LOps.nil ?_ | refine andThen_normal ?_ | refine andThen_exit ?_ | refine andThen_ret ?_ | refine inBlock_normal ?_ | refine inBlock_ret ?_ | refine inBlock_here ?_ | refine inBlock_out rfl ?_ | refine LWp.seq ?_ | refine LWp.region ?_ | refine LWp.block ?_ | refine LWp.exit ?_ | refine LWp.ret ?_ | refine LWp.skip ?_ | refine LOps.valA ?_ | refine LOps.outA ?_ | refine LOps.whenA ?_ | refine LOps.pickA ?_ | refine LOps.storeA ?_)
      refine LWp.cond rfl (fun h => ?_) (fun h => ?_)
      · have g6 : x.op.kind = 6 := by simpa using h
        repeat (first | refine LOps.nil ?_ | refine andThen_normal ?_ | refine andThen_exit ?_ | refine andThen_ret ?_ | refine inBlock_normal ?_ | refine inBlock_ret ?_ | refine inBlock_here ?_ | refine inBlock_out rfl ?_ | refine LWp.seq ?_ | refine LWp.region ?_ | refine LWp.block ?_ | refine LWp.exit ?_ | refine LWp.ret ?_ | refine LWp.skip ?_ | refine LOps.valA ?_ | refine LOps.outA ?_ | refine LOps.whenA ?_ | refine LOps.pickA ?_ | refine LOps.storeA ?_)
        refine LOps.do (LDo.callV (cs := [.pointer (some ⟨b3, 0, none⟩)]) rfl rfl rfl rfl (by rw [hP]; exact Try.func28) rfl (by decide) (nm_L hP hJ (by omega) ((x.op.writes.map wrL).length : Nat) 1 (by omega))) rfl rfl rfl ?_
        rintro _ S6 ⟨_, hJ, hk⟩
        have k7 := hk _ _ n73 k7
        clear hk
        rw [hml] at hJ
        have hmin : (if (255 : Int) < ((x.op.writes.map wrL).length : Int) then (255 : Int) else ((x.op.writes.map wrL).length : Int)) = ((min x.op.writes.length 255 : Nat) : Int) := by rw [hml]; split <;> omega
        repeat (first | refine LOps.val (LVal.to (LVal.min rfl rfl rfl) (congrArg (fun x => TV.one (iv x)) hmin)) rfl rfl rfl ?_ | refine LOps.val (LVal.takeMap hD rfl rfl rfl rfl rfl rfl (by omega) rfl (fun _ _ => rfl)) rfl rfl rfl ?_ | refine LOps.nil ?_ | refine andThen_normal ?_ | refine andThen_exit ?_ | refine andThen_ret ?_ | refine inBlock_normal ?_ | refine inBlock_ret ?_ | refine inBlock_here ?_ | refine inBlock_out rfl ?_ | refine LWp.seq ?_ | refine LWp.region ?_ | refine LWp.block ?_ | refine LWp.exit ?_ | refine LWp.ret ?_ | refine LWp.skip ?_ | refine LOps.valA ?_ | refine LOps.outA ?_ | refine LOps.whenA ?_ | refine LOps.pickA ?_ | refine LOps.storeA ?_)
        have e0 : x.op.writes.take (min x.op.writes.length 255) = x.op.writes.take 255 := by
          rcases Nat.le_total 255 x.op.writes.length with h | h
          · rw [Nat.min_eq_right h]
          · rw [Nat.min_eq_left h, List.take_length, List.take_of_length_le h]
        rw [e0]
        have hres : opW2 x.op = numW 1 (x.op.writes.length : Nat) ++ (x.op.writes.take 255).flatMap wrW := by simp [opW2, g6]
        rw [hres, ← List.append_assoc]
        have hpl : (pre ++ numW 1 (x.op.writes.length : Nat)).length ≤ 60010 := by rw [List.length_append, numW_len]; omega
        have hws : ∀ w ∈ x.op.writes.take 255, WrB w := fun w hw => hx.writes w (List.mem_of_mem_take hw)
        have hwl : (x.op.writes.take 255).length ≤ 255 := by rw [List.length_take]; omega
        generalize pre ++ numW 1 (x.op.writes.length : Nat) = pr2 at hJ hpl
        generalize x.op.writes.take 255 = ws at hws hwl
        have hml2 : (ws.map wrL).length = ws.length := List.length_map ..
        repeat (first | refine LOps.nil ?_ | refine andThen_normal ?_ | refine andThen_exit ?_ | refine andThen_ret ?_ | refine inBlock_normal ?_ | refine inBlock_ret ?_ | refine inBlock_here ?_ | refine inBlock_out rfl ?_ | refine LWp.seq ?_ | refine LWp.region ?_ | refine LWp.block ?_ | refine LWp.exit ?_ | refine LWp.ret ?_ | refine LWp.skip ?_ | refine LOps.valA ?_ | refine LOps.outA ?_ | refine LOps.whenA ?_ | refine LOps.pickA ?_ | refine LOps.storeA ?_)
        refine LWp.loop (fun k T S' => ∃ (T' : Nat → TV) (j : Nat) (o : Own), j ≤ ws.length ∧ k = ws.length - j ∧ ByJ S S' b3 o (pr2 ++ (ws.take j).flatMap wrW) ∧ (pr2 ++ (ws.take j).flatMap wrW).length ≤ 60010 + j * 120010 ∧ T = over T' [(3, ptr b3), (5, fv 29 b3), (6, fv 30 b3), (106, .one (.sl .sh (ws.map wrL))), (107, .one (iv (ws.length : Nat))), (108, .one (iv (j : Nat)))]) ws.length ?_ ?_
        · exact ⟨_, 0, _, by omega, rfl, by simpa using hJ, by simpa using hpl, holds.over ⟨rfl, rfl, rfl, rfl, by rw [← hml2]; rfl, rfl, trivial⟩⟩
        clear hJ k7
        rintro k T S7 ⟨T', j, o7, hj, rfl, hJ, hlen, rfl⟩
        repeat (first | refine LOps.nil ?_ | refine andThen_normal ?_ | refine andThen_exit ?_ | refine andThen_ret ?_ | refine inBlock_normal ?_ | refine inBlock_ret ?_ | refine inBlock_here ?_ | refine inBlock_out rfl ?_ | refine LWp.seq ?_ | refine LWp.region ?_ | refine LWp.block ?_ | refine LWp.exit ?_ | refine LWp.ret ?_ | refine LWp.skip ?_ | refine LOps.valA ?_ | refine LOps.outA ?_ | refine LOps.whenA ?_ | refine LOps.pickA ?_ | refine LOps.storeA ?_)
        refine LWp.cond rfl (fun h => ?_) (fun h => ?_)
        · have hlt : j < ws.length := by simpa using h
          have hwb := hws _ (List.getElem_mem hlt)
          have hk1 := hwb.key
          have hk2 := hwb.val
          have hstep : pr2 ++ (ws.take (j + 1)).flatMap wrW = (pr2 ++ (ws.take j).flatMap wrW) ++ wrW ws[j] := by
            rw [List.take_succ_eq_append_getElem hlt, List.flatMap_append, ← List.append_assoc]; simp
          have hwl3 := wrW_len hwb
          repeat (first | refine LOps.nil ?_ | refine andThen_normal ?_ | refine andThen_exit ?_ | refine andThen_ret ?_ | refine inBlock_normal ?_ | refine inBlock_ret ?_ | refine inBlock_here ?_ | refine inBlock_out rfl ?_ | refine LWp.seq ?_ | refine LWp.region ?_ | refine LWp.block ?_ | refine LWp.exit ?_ | refine LWp.ret ?_ | refine LWp.skip ?_ | refine LOps.valA ?_ | refine LOps.outA ?_ | refine LOps.whenA ?_ | refine LOps.pickA ?_ | refine LOps.storeA ?_)
          refine LOps.do (LDo.alloc hD rfl rfl rfl) rfl rfl rfl ?_
          rintro _ _ ⟨b9, hb9, rfl, rfl⟩
          have n39 : b3 ≠ b9 := fresh_ne hb9 hJ.kb
          have n93 : b9 ≠ b3 := n39.symm
          have s9 := hJ.le.none hb9
          repeat (first | refine LOps.gen (fun S8 => (∃ o, ByJ S S8 b3 o (pr2 ++ (ws.take j).flatMap wrW)) ∧ S8.box b9 = some (wrL ws[j])) ⟨⟨_, (hJ.new hb9 _).put n39 s9 _⟩, box_set _ _ _⟩ ?_ | refine LOps.nil ?_ | refine andThen_normal ?_ | refine andThen_exit ?_ | refine andThen_ret ?_ | refine inBlock_normal ?_ | refine inBlock_ret ?_ | refine inBlock_here ?_ | refine inBlock_out rfl ?_ | refine LWp.seq ?_ | refine LWp.region ?_ | refine LWp.block ?_ | refine LWp.exit ?_ | refine LWp.ret ?_ | refine LWp.skip ?_ | refine LOps.valA ?_ | refine LOps.outA ?_ | refine LOps.whenA ?_ | refine LOps.pickA ?_ | refine LOps.storeA ?_)
          clear hJ hb9
          rintro S8 ⟨⟨o8, hJ⟩, k9⟩
          generalize pr2 ++ (ws.take j).flatMap wrW = cur at hJ hlen hstep
          have hjl : j * 120010 ≤ 255 * 120010 := Nat.mul_le_mul_right _ (by omega)
          repeat (first | refine LOps.nil ?_ | refine andThen_normal ?_ | refine andThen_exit ?_ | refine andThen_ret ?_ | refine inBlock_normal ?_ | refine inBlock_ret ?_ | refine inBlock_here ?_ | refine inBlock_out rfl ?_ | refine LWp.seq ?_ | refine LWp.region ?_ | refine LWp.block ?_ | refine LWp.exit ?_ | refine LWp.ret ?_ | refine LWp.skip ?_ | refine LOps.valA ?_ | refine LOps.outA ?_ | refine LOps.whenA ?_ | refine LOps.pickA ?_ | refine LOps.storeA ?_)
          refine LOps.do (LDo.callV (cs := [.pointer (some ⟨b3, 0, none⟩)]) rfl rfl rfl rfl (by rw [hP]; exact Try.func29) rfl (by decide) (tx_L hP hJ (by omega) ws[j].key (by omega))) rfl rfl rfl ?_
          rintro _ S9 ⟨_, hJ, hk⟩
          have k9 := hk _ _ n93 k9
          clear hk
          repeat (first | refine LOps.nil ?_ | refine andThen_normal ?_ | refine andThen_exit ?_ | refine andThen_ret ?_ | refine inBlock_normal ?_ | refine inBlock_ret ?_ | refine inBlock_here ?_ | refine inBlock_out rfl ?_ | refine LWp.seq ?_ | refine LWp.region ?_ | refine LWp.block ?_ | refine LWp.exit ?_ | refine LWp.ret ?_ | refine LWp.skip ?_ | refine LOps.valA ?_ | refine LOps.outA ?_ | refine LOps.whenA ?_ | refine LOps.pickA ?_ | refine LOps.storeA ?_)
          refine LOps.do (LDo.callV (cs := [.pointer (some ⟨b3, 0, none⟩)]) rfl rfl rfl rfl (by rw [hP]; exact Try.func30) rfl (by decide) (mk_L hP hJ (by rw [List.length_append, textW_len]; omega) ws[j].gone)) rfl rfl rfl ?_
          rintro _ S10 ⟨_, hJ, hk⟩
          have k9 := hk _ _ n93 k9
          clear hk
          repeat (first | refine LWp.cut 38 (fun T' S' => (∃ o, ByJ S S' b3 o (cur ++ wrW ws[j])) ∧ ∃ T'', T' = over T'' [(3, ptr b3), (5, fv 29 b3), (6, fv 30 b3), (106, .one (.sl .sh (ws.map wrL))), (107, .one (iv (ws.length : Nat))), (108, .one (iv (j : Nat)))]) rfl (LWp.seq ?_) ?_ | refine LOps.nil ?_ | refine andThen_normal ?_ | refine andThen_exit ?_ | refine andThen_ret ?_ | refine inBlock_normal ?_ | refine inBlock_ret ?_ | refine inBlock_here ?_ | refine inBlock_out rfl ?_ | refine LWp.seq ?_ | refine LWp.region ?_ | refine LWp.block ?_ | refine LWp.exit ?_ | refine LWp.ret ?_ | refine LWp.skip ?_ | refine LOps.valA ?_ | refine LOps.outA ?_ | refine LOps.whenA ?_ | refine LOps.pickA ?_ | refine LOps.storeA ?_)
          · repeat (first | refine LOps.nil ?_ | refine andThen_normal ?_ | refine andThen_exit ?_ | refine andThen_ret ?_ | refine inBlock_normal ?_ | refine inBlock_ret ?_ | refine inBlock_here ?_ | refine inBlock_out rfl ?_ | refine LWp.seq ?_ | refine LWp.region ?_ | refine LWp.block ?_ | refine LWp.exit ?_ | refine LWp.ret ?_ | refine LWp.skip ?_ | refine LOps.valA ?_ | refine LOps.outA ?_ | refine LOps.whenA ?_ | refine LOps.pickA ?_ | refine LOps.storeA ?_)
            refine LWp.cond rfl (fun h => ?_) (fun h => ?_)
            · have hg : ws[j].gone = false := by simpa using h
              repeat (first | refine LOps.nil ?_ | refine andThen_normal ?_ | refine andThen_exit ?_ | refine andThen_ret ?_ | refine inBlock_normal ?_ | refine inBlock_ret ?_ | refine inBlock_here ?_ | refine inBlock_out rfl ?_ | refine LWp.seq ?_ | refine LWp.region ?_ | refine LWp.block ?_ | refine LWp.exit ?_ | refine LWp.ret ?_ | refine LWp.skip ?_ | refine LOps.valA ?_ | refine LOps.outA ?_ | refine LOps.whenA ?_ | refine LOps.pickA ?_ | refine LOps.storeA ?_)
              refine LOps.do (LDo.callV (cs := [.pointer (some ⟨b3, 0, none⟩)]) rfl rfl rfl rfl (by rw [hP]; exact Try.func29) rfl (by decide) (tx_L hP hJ (by rw [List.length_append, List.length_append, textW_len, markB_len]; omega) ws[j].val (by omega))) rfl rfl rfl ?_
              rintro _ S11 ⟨_, hJ, hk⟩
              clear hk
              repeat (first | refine LOps.nil ?_ | refine andThen_normal ?_ | refine andThen_exit ?_ | refine andThen_ret ?_ | refine inBlock_normal ?_ | refine inBlock_ret ?_ | refine inBlock_here ?_ | refine inBlock_out rfl ?_ | refine LWp.seq ?_ | refine LWp.region ?_ | refine LWp.block ?_ | refine LWp.exit ?_ | refine LWp.ret ?_ | refine LWp.skip ?_ | refine LOps.valA ?_ | refine LOps.outA ?_ | refine LOps.whenA ?_ | refine LOps.pickA ?_ | refine LOps.storeA ?_)
              exact ⟨⟨_, by simpa [wrW, hg] using hJ⟩, _, holds.over ⟨rfl, rfl, rfl, rfl, rfl, rfl, trivial⟩⟩
            · have hg : ws[j].gone = true := by simpa using h
              repeat (first | refine LOps.nil ?_ | refine andThen_normal ?_ | refine andThen_exit ?_ | refine andThen_ret ?_ | refine inBlock_normal ?_ | refine inBlock_ret ?_ | refine inBlock_here ?_ | refine inBlock_out rfl ?_ | refine LWp.seq ?_ | refine LWp.region ?_ | refine LWp.block ?_ | refine LWp.exit ?_ | refine LWp.ret ?_ | refine LWp.skip ?_ | refine LOps.valA ?_ | refine LOps.outA ?_ | refine LOps.whenA ?_ | refine LOps.pickA ?_ | refine LOps.storeA ?_)
              exact ⟨⟨_, by simpa [wrW, hg] using hJ⟩, _, holds.over ⟨rfl, rfl, rfl, rfl, rfl, rfl, trivial⟩⟩
          rintro T' S11 ⟨⟨o11, hJ⟩, T'', rfl⟩
          repeat (first | refine LOps.nil ?_ | refine andThen_normal ?_ | refine andThen_exit ?_ | refine andThen_ret ?_ | refine inBlock_normal ?_ | refine inBlock_ret ?_ | refine inBlock_here ?_ | refine inBlock_out rfl ?_ | refine LWp.seq ?_ | refine LWp.region ?_ | refine LWp.block ?_ | refine LWp.exit ?_ | refine LWp.ret ?_ | refine LWp.skip ?_ | refine LOps.valA ?_ | refine LOps.outA ?_ | refine LOps.whenA ?_ | refine LOps.pickA ?_ | refine LOps.storeA ?_)
          exact ⟨ws.length - (j + 1), by omega, _, j + 1, o11, by omega, rfl, by rw [hstep]; exact hJ, by rw [hstep, List.length_append, Nat.add_mul]; omega, holds.over ⟨rfl, rfl, rfl, rfl, rfl, rfl, trivial⟩⟩
        · have hge : j = ws.length := by simp at h; omega
          subst hge
          repeat (first | refine LOps.nil ?_ | refine andThen_normal ?_ | refine andThen_exit ?_ | refine andThen_ret ?_ | refine inBlock_normal ?_ | refine inBlock_ret ?_ | refine inBlock_here ?_ | refine inBlock_out rfl ?_ | refine LWp.seq ?_ | refine LWp.region ?_ | refine LWp.block ?_ | refine LWp.exit ?_ | refine LWp.ret ?_ | refine LWp.skip ?_ | refine LOps.valA ?_ | refine LOps.outA ?_ | refine LOps.whenA ?_ | refine LOps.pickA ?_ | refine LOps.storeA ?_)
          exact ⟨⟨o7, by simpa using hJ⟩, _, holds.over ⟨rfl, trivial⟩⟩
      have g6 : ¬ x.op.kind = 6 := by simpa using h
      repeat (first | refine LOps.nil ?_ | refine andThen_normal ?_ | refine andThen_exit ?_ | refine andThen_ret ?_ | refine inBlock_normal ?_ | refine inBlock_ret ?_ | refine inBlock_here ?_ | refine inBlock_out rfl ?_ | refine LWp.seq ?_ | refine LWp.region ?_ | refine LWp.block ?_ | refine LWp.exit ?_ | refine LWp.ret ?_ | refine LWp.skip ?_ | refine LOps.valA ?_ | refine LOps.outA ?_ | refine LOps.whenA ?_ | refine LOps.pickA ?_ | refine LOps.storeA ?_)
      exact ⟨⟨_, by simpa [opW2, g2, g4, g5, g6] using hJ⟩, _, holds.over ⟨rfl, trivial⟩⟩
    have h1 : ¬ x.kind = 1 := by simpa using h
    repeat (first | refine LOps.nil ?_ | refine andThen_normal ?_ | refine andThen_exit ?_ | refine andThen_ret ?_ | refine inBlock_normal ?_ | refine inBlock_ret ?_ | refine inBlock_here ?_ | refine inBlock_out rfl ?_ | refine LWp.seq ?_ | refine LWp.region ?_ | refine LWp.block ?_ | refine LWp.exit ?_ | refine LWp.ret ?_ | refine LWp.skip ?_ | refine LOps.valA ?_ | refine LOps.outA ?_ | refine LOps.whenA ?_ | refine LOps.pickA ?_ | refine LOps.storeA ?_)
    exact ⟨⟨_, by simpa [bytesW, h1, h2, h3, h4, h6] using hJ⟩, _, holds.over ⟨rfl, trivial⟩⟩
  clear hJ k1
  rintro T' S2 ⟨⟨o2, hJ⟩, T'', rfl⟩
  have kb := hJ.kb
  repeat (first | refine LOps.nil ?_ | refine andThen_normal ?_ | refine andThen_exit ?_ | refine andThen_ret ?_ | refine inBlock_normal ?_ | refine inBlock_ret ?_ | refine inBlock_here ?_ | refine inBlock_out rfl ?_ | refine LWp.seq ?_ | refine LWp.region ?_ | refine LWp.block ?_ | refine LWp.exit ?_ | refine LWp.ret ?_ | refine LWp.skip ?_ | refine LOps.valA ?_ | refine LOps.outA ?_ | refine LOps.whenA ?_ | refine LOps.pickA ?_ | refine LOps.storeA ?_)
  exact ⟨_, LRes.sh (LRes.one rfl), rfl, hJ.le⟩
end Go.Proofs.Ytbifiagpmoakdaa.LF
