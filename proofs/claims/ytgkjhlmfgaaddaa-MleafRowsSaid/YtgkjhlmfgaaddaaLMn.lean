/- The arguments that a leaf's laws take; MleafMarks. (Printed by gen_typed.py.) -/
import Derived.Test.YtgkjhlmfgaaddaaLMm
import Derived.Test.YtgkjhlmfgaaddaaLGc
set_option linter.unusedVariables false
set_option linter.unusedSimpArgs false
namespace Go.Proofs.Ytgkjhlmfgaaddaa.LF
open Go.RowKit
set_option linter.unusedVariables false

theorem typed_array {t e : TypeId} {i j : TI} {n : Nat} {l : List LV} (hi : D.get t = some i) (hd : i.desc = .array n e) (hj : D.get e = some j) (h : Typed D t l) : l.length = n * j.size ∧ ∀ k, k < n → Typed D e ((l.drop (k * j.size)).take j.size) := by
  cases h with
  | bool h1 h2 => rw [hi] at h1; obtain rfl := Option.some.inj h1; rw [hd] at h2; cases h2
  | int h1 h2 => rw [hi] at h1; obtain rfl := Option.some.inj h1; rw [hd] at h2; cases h2
  | string h1 h2 => rw [hi] at h1; obtain rfl := Option.some.inj h1; rw [hd] at h2; cases h2
  | slice h1 h2 => rw [hi] at h1; obtain rfl := Option.some.inj h1; rw [hd] at h2; cases h2
  | struct h1 h2 => rw [hi] at h1; obtain rfl := Option.some.inj h1; rw [hd] at h2; cases h2
  | array h1 h2 h3 h4 h5 =>
    rw [hi] at h1; obtain rfl := Option.some.inj h1
    rw [hd] at h2
    cases h2
    rw [hj] at h3; obtain rfl := Option.some.inj h3
    exact ⟨h4, h5⟩

theorem wf_u8' {n : Int} (h : (Lit.int .u8 n).wf = true) : 0 ≤ n ∧ n < 256 := by
  simp [Lit.wf, IntKind.min, IntKind.max, IntKind.signed, IntKind.bits] at h
  omega
theorem wf_u64 {n : Int} (h : (Lit.int .u64 n).wf = true) : 0 ≤ n ∧ n < 18446744073709551616 := by
  simp [Lit.wf, IntKind.min, IntKind.max, IntKind.signed, IntKind.bits] at h
  omega
theorem typed_mark {l : List LV} (h : Typed D 24 l) : ∃ m : MarkV, l = markL m ∧ m.ok := by
  obtain ⟨h1, h2⟩ := typed_struct rfl rfl h
  match l, h1 with
  | [a0, a1], _ =>
    obtain ⟨x0, e0, w0⟩ := typed_int rfl rfl (h2 0 _ _ rfl rfl)
    obtain ⟨x1, e1, w1⟩ := typed_int rfl rfl (h2 1 _ _ rfl rfl)
    have e0 : [a0] = [u64 x0] := e0
    have e1 : [a1] = [uv x1] := e1
    cases e0; cases e1
    exact ⟨⟨x0, x1⟩, rfl, (wf_u64 w0).1, (wf_u64 w0).2, (wf_u8' w1).1, (wf_u8' w1).2⟩
theorem typed_handle {l : List LV} (h : Typed D 26 l) : ∃ x y : Int, l = [iv x, u64 y] := by
  obtain ⟨h1, h2⟩ := typed_struct rfl rfl h
  match l, h1 with
  | [a0, a1], _ =>
    obtain ⟨x0, e0, _⟩ := typed_int rfl rfl (h2 0 _ _ rfl rfl)
    obtain ⟨x1, e1, _⟩ := typed_int rfl rfl (h2 1 _ _ rfl rfl)
    have e0 : [a0] = [iv x0] := e0
    have e1 : [a1] = [u64 x1] := e1
    cases e0; cases e1
    exact ⟨x0, x1, rfl⟩
theorem typed_slot {l : List LV} (h : Typed D 28 l) : ∃ s : SlotV, l = slotL s ∧ s.m.ok := by
  obtain ⟨h1, h2⟩ := typed_struct rfl rfl h
  match l, h1 with
  | [a0, a1, a2, a3, a4, a5, a6], _ =>
    obtain ⟨m, e0, hm⟩ := typed_mark (h2 0 _ _ rfl rfl)
    obtain ⟨r, e1, _⟩ := typed_str rfl rfl (h2 1 _ _ rfl rfl)
    obtain ⟨v, e2, _⟩ := typed_str rfl rfl (h2 2 _ _ rfl rfl)
    obtain ⟨d, e3⟩ := typed_bool rfl rfl (h2 3 _ _ rfl rfl)
    obtain ⟨x, y, e4⟩ := typed_handle (h2 4 _ _ rfl rfl)
    have e0 : [a0, a1] = [u64 m.s, uv m.c] := e0
    have e1 : [a2] = [sv r] := e1
    have e2 : [a3] = [sv v] := e2
    have e3 : [a4] = [bv d] := e3
    have e4 : [a5, a6] = [iv x, u64 y] := e4
    cases e0; cases e1; cases e2; cases e3; cases e4
    exact ⟨⟨m, r, v, d, x, y⟩, rfl, hm⟩

theorem seven (L : List LV) (a : Nat) : L.drop a = (L.drop a).take 7 ++ L.drop (a + 7) := by
  rw [← List.drop_drop, List.take_append_drop]
theorem slots_of {L : List LV} (hl : L.length = 105) {f : Nat → SlotV} (h : ∀ k, k < 15 → (L.drop (k * 7)).take 7 = slotL (f k)) : L = slotsL f := by
  have e14 : L.drop 98 = slotL (f 14) := by
    rw [← h 14 (by omega)]
    show L.drop 98 = (L.drop 98).take 7
    rw [List.take_of_length_le (by rw [List.length_drop, hl]; decide)]
  have e13 : L.drop 91 = slotL (f 13) ++ (slotL (f 14)) := by
    have := seven L 91
    rw [show (L.drop 91).take 7 = slotL (f 13) from h 13 (by omega), show L.drop (91 + 7) = _ from e14] at this
    exact this
  have e12 : L.drop 84 = slotL (f 12) ++ (slotL (f 13) ++ (slotL (f 14))) := by
    have := seven L 84
    rw [show (L.drop 84).take 7 = slotL (f 12) from h 12 (by omega), show L.drop (84 + 7) = _ from e13] at this
    exact this
  have e11 : L.drop 77 = slotL (f 11) ++ (slotL (f 12) ++ (slotL (f 13) ++ (slotL (f 14)))) := by
    have := seven L 77
    rw [show (L.drop 77).take 7 = slotL (f 11) from h 11 (by omega), show L.drop (77 + 7) = _ from e12] at this
    exact this
  have e10 : L.drop 70 = slotL (f 10) ++ (slotL (f 11) ++ (slotL (f 12) ++ (slotL (f 13) ++ (slotL (f 14))))) := by
    have := seven L 70
    rw [show (L.drop 70).take 7 = slotL (f 10) from h 10 (by omega), show L.drop (70 + 7) = _ from e11] at this
    exact this
  have e9 : L.drop 63 = slotL (f 9) ++ (slotL (f 10) ++ (slotL (f 11) ++ (slotL (f 12) ++ (slotL (f 13) ++ (slotL (f 14)))))) := by
    have := seven L 63
    rw [show (L.drop 63).take 7 = slotL (f 9) from h 9 (by omega), show L.drop (63 + 7) = _ from e10] at this
    exact this
  have e8 : L.drop 56 = slotL (f 8) ++ (slotL (f 9) ++ (slotL (f 10) ++ (slotL (f 11) ++ (slotL (f 12) ++ (slotL (f 13) ++ (slotL (f 14))))))) := by
    have := seven L 56
    rw [show (L.drop 56).take 7 = slotL (f 8) from h 8 (by omega), show L.drop (56 + 7) = _ from e9] at this
    exact this
  have e7 : L.drop 49 = slotL (f 7) ++ (slotL (f 8) ++ (slotL (f 9) ++ (slotL (f 10) ++ (slotL (f 11) ++ (slotL (f 12) ++ (slotL (f 13) ++ (slotL (f 14)))))))) := by
    have := seven L 49
    rw [show (L.drop 49).take 7 = slotL (f 7) from h 7 (by omega), show L.drop (49 + 7) = _ from e8] at this
    exact this
  have e6 : L.drop 42 = slotL (f 6) ++ (slotL (f 7) ++ (slotL (f 8) ++ (slotL (f 9) ++ (slotL (f 10) ++ (slotL (f 11) ++ (slotL (f 12) ++ (slotL (f 13) ++ (slotL (f 14))))))))) := by
    have := seven L 42
    rw [show (L.drop 42).take 7 = slotL (f 6) from h 6 (by omega), show L.drop (42 + 7) = _ from e7] at this
    exact this
  have e5 : L.drop 35 = slotL (f 5) ++ (slotL (f 6) ++ (slotL (f 7) ++ (slotL (f 8) ++ (slotL (f 9) ++ (slotL (f 10) ++ (slotL (f 11) ++ (slotL (f 12) ++ (slotL (f 13) ++ (slotL (f 14)))))))))) := by
    have := seven L 35
    rw [show (L.drop 35).take 7 = slotL (f 5) from h 5 (by omega), show L.drop (35 + 7) = _ from e6] at this
    exact this
  have e4 : L.drop 28 = slotL (f 4) ++ (slotL (f 5) ++ (slotL (f 6) ++ (slotL (f 7) ++ (slotL (f 8) ++ (slotL (f 9) ++ (slotL (f 10) ++ (slotL (f 11) ++ (slotL (f 12) ++ (slotL (f 13) ++ (slotL (f 14))))))))))) := by
    have := seven L 28
    rw [show (L.drop 28).take 7 = slotL (f 4) from h 4 (by omega), show L.drop (28 + 7) = _ from e5] at this
    exact this
  have e3 : L.drop 21 = slotL (f 3) ++ (slotL (f 4) ++ (slotL (f 5) ++ (slotL (f 6) ++ (slotL (f 7) ++ (slotL (f 8) ++ (slotL (f 9) ++ (slotL (f 10) ++ (slotL (f 11) ++ (slotL (f 12) ++ (slotL (f 13) ++ (slotL (f 14)))))))))))) := by
    have := seven L 21
    rw [show (L.drop 21).take 7 = slotL (f 3) from h 3 (by omega), show L.drop (21 + 7) = _ from e4] at this
    exact this
  have e2 : L.drop 14 = slotL (f 2) ++ (slotL (f 3) ++ (slotL (f 4) ++ (slotL (f 5) ++ (slotL (f 6) ++ (slotL (f 7) ++ (slotL (f 8) ++ (slotL (f 9) ++ (slotL (f 10) ++ (slotL (f 11) ++ (slotL (f 12) ++ (slotL (f 13) ++ (slotL (f 14))))))))))))) := by
    have := seven L 14
    rw [show (L.drop 14).take 7 = slotL (f 2) from h 2 (by omega), show L.drop (14 + 7) = _ from e3] at this
    exact this
  have e1 : L.drop 7 = slotL (f 1) ++ (slotL (f 2) ++ (slotL (f 3) ++ (slotL (f 4) ++ (slotL (f 5) ++ (slotL (f 6) ++ (slotL (f 7) ++ (slotL (f 8) ++ (slotL (f 9) ++ (slotL (f 10) ++ (slotL (f 11) ++ (slotL (f 12) ++ (slotL (f 13) ++ (slotL (f 14)))))))))))))) := by
    have := seven L 7
    rw [show (L.drop 7).take 7 = slotL (f 1) from h 1 (by omega), show L.drop (7 + 7) = _ from e2] at this
    exact this
  have e0 : L.drop 0 = slotL (f 0) ++ (slotL (f 1) ++ (slotL (f 2) ++ (slotL (f 3) ++ (slotL (f 4) ++ (slotL (f 5) ++ (slotL (f 6) ++ (slotL (f 7) ++ (slotL (f 8) ++ (slotL (f 9) ++ (slotL (f 10) ++ (slotL (f 11) ++ (slotL (f 12) ++ (slotL (f 13) ++ (slotL (f 14))))))))))))))) := by
    have := seven L 0
    rw [show (L.drop 0).take 7 = slotL (f 0) from h 0 (by omega), show L.drop (0 + 7) = _ from e1] at this
    exact this
  exact e0
theorem typed_leaf {l : List LV} (h : Typed D 31 l) : ∃ x : LeafV, l = leafL x ∧ x.ok := by
  obtain ⟨h1, h2⟩ := typed_struct rfl rfl h
  have h1 : l.length = 111 := h1
  obtain ⟨p, e0, w0⟩ := typed_int rfl rfl (h2 0 _ _ rfl rfl)
  obtain ⟨a1, a2⟩ := typed_array rfl rfl rfl (h2 1 _ _ rfl rfl)
  obtain ⟨m, e2, hm⟩ := typed_mark (h2 2 _ _ rfl rfl)
  obtain ⟨b, e3⟩ := typed_bool rfl rfl (h2 3 _ _ rfl rfl)
  obtain ⟨x, y, e4⟩ := typed_handle (h2 4 _ _ rfl rfl)
  have e0 : (l.drop 0).take 1 = [u64 p] := e0
  have e2 : (l.drop 106).take 2 = [u64 m.s, uv m.c] := e2
  have e3 : (l.drop 108).take 1 = [bv b] := e3
  have e4 : (l.drop 109).take 2 = [iv x, u64 y] := e4
  have a1 : ((l.drop 1).take 105).length = 105 := a1
  have a2 : ∀ k, k < 15 → Typed D 28 ((((l.drop 1).take 105).drop (k * 7)).take 7) := a2
  have a3 : ∀ k, ∃ s : SlotV, k < 15 → (((l.drop 1).take 105).drop (k * 7)).take 7 = slotL s ∧ s.m.ok := fun k => by
    by_cases hk : k < 15
    · obtain ⟨s, h3, h4⟩ := typed_slot (a2 k hk)
      exact ⟨s, fun _ => ⟨h3, h4⟩⟩
    · exact ⟨noSlot, fun h => absurd h hk⟩
  obtain ⟨f, hf⟩ : ∃ f : Nat → SlotV, ∀ k, k < 15 → (((l.drop 1).take 105).drop (k * 7)).take 7 = slotL (f k) ∧ (f k).m.ok := ⟨fun k => (a3 k).choose, fun k hk => (a3 k).choose_spec hk⟩
  have e1 := slots_of a1 fun k hk => (hf k hk).1
  obtain ⟨q, rfl⟩ : ∃ q : Nat, p = q := ⟨p.toNat, by have := (wf_u64 w0).1; omega⟩
  refine ⟨⟨q, f, m, b, x, y⟩, ?_, by have := (wf_u64 w0).2; show q < 18446744073709551616; omega, fun k hk => (hf k hk).2, hm⟩
  have s0 : l = (l.drop 0).take 1 ++ l.drop 1 := by rw [List.drop_zero, List.take_append_drop]
  have s1 : l.drop 1 = (l.drop 1).take 105 ++ l.drop 106 := by
    have := (List.take_append_drop 105 (l.drop 1)).symm
    rwa [List.drop_drop] at this
  have s2 : l.drop 106 = (l.drop 106).take 2 ++ l.drop 108 := by
    have := (List.take_append_drop 2 (l.drop 106)).symm
    rwa [List.drop_drop] at this
  have s3 : l.drop 108 = (l.drop 108).take 1 ++ l.drop 109 := by
    have := (List.take_append_drop 1 (l.drop 108)).symm
    rwa [List.drop_drop] at this
  have s4 : l.drop 109 = [iv x, u64 y] := by rw [← e4, List.take_of_length_le (by rw [List.length_drop, h1]; decide)]
  rw [e3, s4] at s3
  rw [e2, s3] at s2
  rw [e1, s2] at s1
  rw [e0, s1] at s0
  rw [s0]; rfl

set_option maxHeartbeats 16000000 in
set_option maxRecDepth 20000 in
theorem marks_L {G : Ctx} (hP : G.P = Try.prog) (key : ByteArray) (hk : key.size ≤ 140737488351232) (i : Int) (m o : MarkV) (hm : m.ok) (ho : o.ok) (s : SlotV) (hs : s.m.ok) (S : LS) : LCalls G 5 [.one (sv key), .one (iv i), .agg (markL m), .agg (markL o), .agg (slotL s)] (fun r _ => r = .one (bv true)) S := by
  have hD : TabOK G.P D := by rw [hP]; exact hD0
  have ea : EqTy G.P D 24 := by rw [hP]; exact eqMark
  have c1 := refSlice_F hP key i hk
  have c2 := of_M hP key i hk
  have c3 := awake_F hP
  have c4 := right_M hP m hm
  have c5 := mark_F hP m
  have c6 := refRight_M hP m hm
  have c7 := text_F hP m hm
  have c8 := refText_F hP m hm
  have c9 := less_M hP m o
  have c10 := mark_F hP o
  have c11 := refLess_M hP m o hm ho
  have c12 := right_S hP s hs
  have c13 := one_S hP s
  have c14 := refRight_S hP s hs
  have hc := ofM_ok key i
  have e8 : TV.one (.v (.int .u8 (IntKind.u8.wrap (ofM key i).c))) = .one (uv (ofM key i).c) := by
    have := hc.c0
    have := hc.c1
    rw [IntKind.wrap_u8, Int.emod_eq_of_lt (by omega) (by omega)]
  refine LCalls.enter (fn := Try.f5) (by rw [hP]; exact Try.func5) rfl rfl ?_
  repeat (first | refine LOps.nil ?_ | refine andThen_normal ?_ | refine andThen_exit ?_ | refine andThen_ret ?_ | refine inBlock_normal ?_ | refine inBlock_ret ?_ | refine inBlock_here ?_ | refine inBlock_out rfl ?_ | refine LWp.seq ?_ | refine LWp.region ?_ | refine LWp.block ?_ | refine LWp.exit ?_ | refine LWp.ret ?_ | refine LWp.skip ?_ | refine LOps.valA ?_ | refine LOps.outA ?_ | refine LOps.whenA ?_ | refine LOps.pickA ?_ | refine LOps.storeA ?_)
  have hle := LS.le.refl S
  refine LOps.do (LDo.box rfl rfl) rfl rfl rfl ?_
  rintro _ _ ⟨b7, hb7, rfl, rfl⟩
  have s7 := hle.none hb7
  refine LOps.gen (fun S' => S.le S' ∧ S'.box b7 = some (markL m)) ⟨hle.newBox hb7 _, box_new _ _ _⟩ ?_
  clear hle hb7 
  rintro S7 ⟨hle, k7⟩
  repeat (first | refine LOps.nil ?_ | refine andThen_normal ?_ | refine andThen_exit ?_ | refine andThen_ret ?_ | refine inBlock_normal ?_ | refine inBlock_ret ?_ | refine inBlock_here ?_ | refine inBlock_out rfl ?_ | refine LWp.seq ?_ | refine LWp.region ?_ | refine LWp.block ?_ | refine LWp.exit ?_ | refine LWp.ret ?_ | refine LWp.skip ?_ | refine LOps.valA ?_ | refine LOps.outA ?_ | refine LOps.whenA ?_ | refine LOps.pickA ?_ | refine LOps.storeA ?_)
  skip
  refine LOps.do (LDo.box rfl rfl) rfl rfl rfl ?_
  rintro _ _ ⟨b8, hb8, rfl, rfl⟩
  have n7_8 := fresh_ne hb8 k7
  have m8_7 := n7_8.symm
  have s8 := hle.none hb8
  refine LOps.gen (fun S' => S.le S' ∧ S'.box b7 = some (markL m) ∧ S'.box b8 = some (markL o)) ⟨hle.newBox hb8 _, (box_new_ne _ _ n7_8).trans k7, box_new _ _ _⟩ ?_
  clear hle hb8 k7
  rintro S8 ⟨hle, k7, k8⟩
  repeat (first | refine LOps.nil ?_ | refine andThen_normal ?_ | refine andThen_exit ?_ | refine andThen_ret ?_ | refine inBlock_normal ?_ | refine inBlock_ret ?_ | refine inBlock_here ?_ | refine inBlock_out rfl ?_ | refine LWp.seq ?_ | refine LWp.region ?_ | refine LWp.block ?_ | refine LWp.exit ?_ | refine LWp.ret ?_ | refine LWp.skip ?_ | refine LOps.valA ?_ | refine LOps.outA ?_ | refine LOps.whenA ?_ | refine LOps.pickA ?_ | refine LOps.storeA ?_)
  skip
  refine LOps.do (LDo.box rfl rfl) rfl rfl rfl ?_
  rintro _ _ ⟨b9, hb9, rfl, rfl⟩
  have n7_9 := fresh_ne hb9 k7
  have m9_7 := n7_9.symm
  have n8_9 := fresh_ne hb9 k8
  have m9_8 := n8_9.symm
  have s9 := hle.none hb9
  refine LOps.gen (fun S' => S.le S' ∧ S'.box b7 = some (markL m) ∧ S'.box b8 = some (markL o) ∧ S'.box b9 = some (slotL s)) ⟨hle.newBox hb9 _, (box_new_ne _ _ n7_9).trans k7, (box_new_ne _ _ n8_9).trans k8, box_new _ _ _⟩ ?_
  clear hle hb9 k7 k8
  rintro S9 ⟨hle, k7, k8, k9⟩
  repeat (first | refine LOps.nil ?_ | refine andThen_normal ?_ | refine andThen_exit ?_ | refine andThen_ret ?_ | refine inBlock_normal ?_ | refine inBlock_ret ?_ | refine inBlock_here ?_ | refine inBlock_out rfl ?_ | refine LWp.seq ?_ | refine LWp.region ?_ | refine LWp.block ?_ | refine LWp.exit ?_ | refine LWp.ret ?_ | refine LWp.skip ?_ | refine LOps.val (LVal.call rfl rfl (by rw [hP]; exact Try.func28) rfl (by decide) (c1)) rfl rfl rfl ?_ | refine LOps.val (LVal.call rfl rfl (by rw [hP]; exact Try.func29) rfl (by decide) (c2)) rfl rfl rfl ?_ | refine LOps.whenC (LVal.call rfl rfl (by rw [hP]; exact Try.func28) rfl (by decide) (c1)) ?_ | refine LOps.whenC (LVal.call rfl rfl (by rw [hP]; exact Try.func29) rfl (by decide) (c2)) ?_ | refine LOps.valA ?_ | refine LOps.outA ?_ | refine LOps.whenA ?_ | refine LOps.pickA ?_ | refine LOps.storeA ?_)
  skip
  refine LOps.do (LDo.alloc hD rfl rfl rfl) rfl rfl rfl ?_
  rintro _ _ ⟨b13, hb13, rfl, rfl⟩
  have n7_13 := fresh_ne hb13 k7
  have m13_7 := n7_13.symm
  have n8_13 := fresh_ne hb13 k8
  have m13_8 := n8_13.symm
  have n9_13 := fresh_ne hb13 k9
  have m13_9 := n9_13.symm
  have s13 := hle.none hb13
  refine LOps.gen (fun S' => S.le S' ∧ S'.box b7 = some (markL m) ∧ S'.box b8 = some (markL o) ∧ S'.box b9 = some (slotL s) ∧ S'.box b13 = some (markL noMark)) ⟨hle.newBox hb13 _, (box_new_ne _ _ n7_13).trans k7, (box_new_ne _ _ n8_13).trans k8, (box_new_ne _ _ n9_13).trans k9, box_new _ _ _⟩ ?_
  clear hle hb13 k7 k8 k9
  rintro S13 ⟨hle, k7, k8, k9, k13⟩
  repeat (first | refine LOps.nil ?_ | refine andThen_normal ?_ | refine andThen_exit ?_ | refine andThen_ret ?_ | refine inBlock_normal ?_ | refine inBlock_ret ?_ | refine inBlock_here ?_ | refine inBlock_out rfl ?_ | refine LWp.seq ?_ | refine LWp.region ?_ | refine LWp.block ?_ | refine LWp.exit ?_ | refine LWp.ret ?_ | refine LWp.skip ?_ | refine LOps.valA ?_ | refine LOps.outA ?_ | refine LOps.whenA ?_ | refine LOps.pickA ?_ | refine LOps.storeA ?_)
  refine LWp.gen (fun S' => S.le S' ∧ S'.box b7 = some (markL m) ∧ S'.box b8 = some (markL o) ∧ S'.box b9 = some (slotL s) ∧ S'.box b13 = some (markL (ofM key i))) ⟨hle.setBox s13 _, (box_set_ne _ _ n7_13).trans k7, (box_set_ne _ _ n8_13).trans k8, (box_set_ne _ _ n9_13).trans k9, box_set _ _ _⟩ ?_
  clear hle k7 k8 k9 k13
  rintro S1 ⟨hle, k7, k8, k9, k13⟩
  generalize ofM key i = z at *
  refine LWp.drawL [0, 1, 2, 3, 4, 5, 6, 7, 8, 9, 10, 11, 12, 13, 14, 15, 16, 17, 18, 19, 20, 21, 22, 23, 24, 25, 26, 27, 28, 29, 30, 31, 32, 33, 34, 35, 36, 37, 38, 39, 40, 41, 42, 43, 44] (by rw [hP]; rfl) rfl ?_
  repeat (first | refine LRl.val (fun _ _ => (LVal.call rfl rfl (by rw [hP]; exact Try.func11) rfl (by decide) (c3))) rfl rfl rfl ?_ | refine LRl.val (fun _ _ => (LVal.call rfl rfl (by rw [hP]; exact Try.func30) rfl (by decide) (c4))) rfl rfl rfl ?_ | refine LRl.val (fun _ _ => (LVal.call rfl rfl (by rw [hP]; exact Try.func22) rfl (by decide) (c5))) rfl rfl rfl ?_ | refine LRl.val (fun _ _ => (LVal.call rfl rfl (by rw [hP]; exact Try.func31) rfl (by decide) (c6))) rfl rfl rfl ?_ | refine LRl.val (fun _ _ => (LVal.call rfl rfl (by rw [hP]; exact Try.func32) rfl (by decide) (c7))) rfl rfl rfl ?_ | refine LRl.val (fun _ _ => (LVal.call rfl rfl (by rw [hP]; exact Try.func33) rfl (by decide) (c8))) rfl rfl rfl ?_ | refine LRl.val (fun _ _ => (LVal.call rfl rfl (by rw [hP]; exact Try.func18) rfl (by decide) (c9))) rfl rfl rfl ?_ | refine LRl.val (fun _ _ => (LVal.call rfl rfl (by rw [hP]; exact Try.func22) rfl (by decide) (c10))) rfl rfl rfl ?_ | refine LRl.val (fun _ _ => (LVal.call rfl rfl (by rw [hP]; exact Try.func34) rfl (by decide) (c11))) rfl rfl rfl ?_ | refine LRl.val (fun _ _ => (LVal.call rfl rfl (by rw [hP]; exact Try.func13) rfl (by decide) (c12))) rfl rfl rfl ?_ | refine LRl.val (fun _ _ => (LVal.call rfl rfl (by rw [hP]; exact Try.func27) rfl (by decide) (c13))) rfl rfl rfl ?_ | refine LRl.val (fun _ _ => (LVal.call rfl rfl (by rw [hP]; exact Try.func35) rfl (by decide) (c14))) rfl rfl rfl ?_ | refine LRl.valH (LVal.to (LVal.convInt hD rfl rfl rfl rfl rfl) e8) ?_ (fun _ _ => LVal.to (LVal.convInt hD rfl rfl rfl rfl rfl) e8) | refine LRl.valH (LVal.to (LVal.eqStr rfl rfl rfl) (r' := .one (bv true)) (by simp)) ?_ (fun _ _ => LVal.to (LVal.eqStr rfl rfl rfl) (by simp)) | refine LRl.valH (LVal.to (LVal.eqAgg hD rfl rfl rfl rfl rfl ea rfl) (r' := .one (bv true)) (by show TV.one (bv ((z.s == z.s) && ((z.c == z.c) && true))) = _; rw [beq_self_eq_true, beq_self_eq_true]; rfl)) ?_ (fun _ hS => LVal.to (LVal.eqAgg hD rfl rfl rfl rfl rfl ea rfl) (r' := .one (bv true)) (by show TV.one (bv ((z.s == z.s) && ((z.c == z.c) && true))) = _; rw [beq_self_eq_true, beq_self_eq_true]; rfl)) | refine LRl.valH (LVal.to (LVal.binOp hD rfl rfl rfl rfl) (r' := .one (bv true)) (congrArg (fun b => TV.one (bv b)) (beq_self_eq_true _))) ?_ (fun _ _ => LVal.to (LVal.binOp hD rfl rfl rfl rfl) (congrArg (fun b => TV.one (bv b)) (beq_self_eq_true _))) | refine LRl.val (fun _ _ => LVal.to (LVal.binOp hD rfl rfl rfl rfl) (r' := .one (.v (.bool true))) (congrArg (fun b => TV.one (.v (.bool b))) (by first | exact decide_eq_true (by omega) | (rw [beq_iff_eq]; omega) | (rw [bne_iff_ne]; omega)))) rfl rfl rfl ?_ | refine LRl.val (fun _ _ => LVal.to (LVal.binOp hD rfl rfl rfl rfl) (r' := .one (.v (.bool false))) (congrArg (fun b => TV.one (.v (.bool b))) (by first | exact decide_eq_false (by omega) | (rw [beq_eq_false_iff_ne]; omega) | (rw [bne_eq_false_iff_eq]; omega)))) rfl rfl rfl ?_ | refine LRl.valW ?_ | refine LRl.valC (fun _ => (LVal.call rfl rfl (by rw [hP]; exact Try.func11) rfl (by decide) (c3))) ?_ | refine LRl.valC (fun _ => (LVal.call rfl rfl (by rw [hP]; exact Try.func30) rfl (by decide) (c4))) ?_ | refine LRl.valC (fun _ => (LVal.call rfl rfl (by rw [hP]; exact Try.func22) rfl (by decide) (c5))) ?_ | refine LRl.valC (fun _ => (LVal.call rfl rfl (by rw [hP]; exact Try.func31) rfl (by decide) (c6))) ?_ | refine LRl.valC (fun _ => (LVal.call rfl rfl (by rw [hP]; exact Try.func32) rfl (by decide) (c7))) ?_ | refine LRl.valC (fun _ => (LVal.call rfl rfl (by rw [hP]; exact Try.func33) rfl (by decide) (c8))) ?_ | refine LRl.valC (fun _ => (LVal.call rfl rfl (by rw [hP]; exact Try.func18) rfl (by decide) (c9))) ?_ | refine LRl.valC (fun _ => (LVal.call rfl rfl (by rw [hP]; exact Try.func22) rfl (by decide) (c10))) ?_ | refine LRl.valC (fun _ => (LVal.call rfl rfl (by rw [hP]; exact Try.func34) rfl (by decide) (c11))) ?_ | refine LRl.valC (fun _ => (LVal.call rfl rfl (by rw [hP]; exact Try.func13) rfl (by decide) (c12))) ?_ | refine LRl.valC (fun _ => (LVal.call rfl rfl (by rw [hP]; exact Try.func27) rfl (by decide) (c13))) ?_ | refine LRl.valC (fun _ => (LVal.call rfl rfl (by rw [hP]; exact Try.func35) rfl (by decide) (c14))) ?_ | refine LRl.whenC (fun _ => (LVal.call rfl rfl (by rw [hP]; exact Try.func11) rfl (by decide) (c3))) ?_ | refine LRl.whenC (fun _ => (LVal.call rfl rfl (by rw [hP]; exact Try.func30) rfl (by decide) (c4))) ?_ | refine LRl.whenC (fun _ => (LVal.call rfl rfl (by rw [hP]; exact Try.func22) rfl (by decide) (c5))) ?_ | refine LRl.whenC (fun _ => (LVal.call rfl rfl (by rw [hP]; exact Try.func31) rfl (by decide) (c6))) ?_ | refine LRl.whenC (fun _ => (LVal.call rfl rfl (by rw [hP]; exact Try.func32) rfl (by decide) (c7))) ?_ | refine LRl.whenC (fun _ => (LVal.call rfl rfl (by rw [hP]; exact Try.func33) rfl (by decide) (c8))) ?_ | refine LRl.whenC (fun _ => (LVal.call rfl rfl (by rw [hP]; exact Try.func18) rfl (by decide) (c9))) ?_ | refine LRl.whenC (fun _ => (LVal.call rfl rfl (by rw [hP]; exact Try.func22) rfl (by decide) (c10))) ?_ | refine LRl.whenC (fun _ => (LVal.call rfl rfl (by rw [hP]; exact Try.func34) rfl (by decide) (c11))) ?_ | refine LRl.whenC (fun _ => (LVal.call rfl rfl (by rw [hP]; exact Try.func13) rfl (by decide) (c12))) ?_ | refine LRl.whenC (fun _ => (LVal.call rfl rfl (by rw [hP]; exact Try.func27) rfl (by decide) (c13))) ?_ | refine LRl.whenC (fun _ => (LVal.call rfl rfl (by rw [hP]; exact Try.func35) rfl (by decide) (c14))) ?_ | refine LRl.nil ?_ | refine LRl.valA ?_ | refine LRl.outA ?_ | refine LRl.whenA ?_ | refine LRl.pickA ?_)
  repeat (first | refine LOps.nil ?_ | refine andThen_normal ?_ | refine andThen_exit ?_ | refine andThen_ret ?_ | refine inBlock_normal ?_ | refine inBlock_ret ?_ | refine inBlock_here ?_ | refine inBlock_out rfl ?_ | refine LWp.seq ?_ | refine LWp.region ?_ | refine LWp.block ?_ | refine LWp.exit ?_ | refine LWp.ret ?_ | refine LWp.skip ?_ | refine LOps.valA ?_ | refine LOps.outA ?_ | refine LOps.whenA ?_ | refine LOps.pickA ?_ | refine LOps.storeA ?_)
  exact ⟨_, LRes.one rfl, rfl⟩
end Go.Proofs.Ytgkjhlmfgaaddaa.LF

namespace Go.Proofs.Ytgkjhlmfgaaddaa
open Go.RowKit LF
theorem mleafMarks_walk (W : World) (v0 : Value) (l0 : List LV) (y0 : Typed LF.D 9 l0) (g0 : RepT (G0 Try.prog W) W (allCells W) (argTV ti9 l0) v0) (v1 : Value) (l1 : List LV) (y1 : Typed LF.D 3 l1) (g1 : RepT (G0 Try.prog W) W (allCells W) (argTV ti3 l1) v1) (v2 : Value) (l2 : List LV) (y2 : Typed LF.D 24 l2) (g2 : RepT (G0 Try.prog W) W (allCells W) (argTV ti24 l2) v2) (v3 : Value) (l3 : List LV) (y3 : Typed LF.D 24 l3) (g3 : RepT (G0 Try.prog W) W (allCells W) (argTV ti24 l3) v3) (v4 : Value) (l4 : List LV) (y4 : Typed LF.D 28 l4) (g4 : RepT (G0 Try.prog W) W (allCells W) (argTV ti28 l4) v4) :
    Calls Try.prog 5 #[v0, v1, v2, v3, v4] W fun e W' => e = .returned (.bool true) ∧ Below W.heap.size W W' := by
  obtain ⟨k, rfl, hk⟩ := typed_str rfl rfl y0
  obtain ⟨i, rfl, _⟩ := typed_int rfl rfl y1
  obtain ⟨m, rfl, hm⟩ := typed_mark y2
  obtain ⟨o, rfl, ho⟩ := typed_mark y3
  obtain ⟨s, rfl, hs⟩ := typed_slot y4
  exact law_calls (fun G S h => marks_L h k hk i m o hm ho s hs S) (.cons (vs := [v1, v2, v3, v4]) g0 (.cons (vs := [v2, v3, v4]) g1 (.cons (vs := [v3, v4]) g2 (.cons (vs := [v4]) g3 (.cons (vs := []) g4 .nil)))))
end Go.Proofs.Ytgkjhlmfgaaddaa
