/- Parts of the frame, one behind the other: LMa LMb LMc LMd LMe LMf LMg. (Printed by merge.py.) -/
import Derived.Test.YtgkjhlmfgaaddaaLGc
import Derived.Test.YtgkjhlmfgaaddaaLPg
import Derived.Test.YtgkjhlmfgaaddaaKG
set_option linter.unusedVariables false
set_option linter.unusedSimpArgs false
section
/- A leaf's data (chapter 14): marks, slots, leaves, and their cells. -/
namespace Go.Proofs.Ytgkjhlmfgaaddaa.LF
open Go.RowKit
set_option linter.unusedVariables false

abbrev u64 (x : Int) : LV := .v (.int .u64 x)
structure MarkV where
  s : Int
  c : Int
structure MarkV.ok (m : MarkV) : Prop where
  s0 : 0 ≤ m.s
  s1 : m.s < 18446744073709551616
  c0 : 0 ≤ m.c
  c1 : m.c < 256
structure SlotV where
  m : MarkV
  rest : ByteArray
  value : ByteArray
  deep : Bool
  ls : Int
  lg : Int
structure LeafV where
  p : Nat
  slot : Nat → SlotV
  high : MarkV
  bounded : Bool
  ns : Int
  ng : Int
abbrev markL (m : MarkV) : List LV := [u64 m.s, uv m.c]
abbrev slotL (x : SlotV) : List LV := [u64 x.m.s, uv x.m.c, sv x.rest, sv x.value, bv x.deep, iv x.ls, u64 x.lg]
def slotsL (f : Nat → SlotV) : List LV := slotL (f 0) ++ (slotL (f 1) ++ (slotL (f 2) ++ (slotL (f 3) ++ (slotL (f 4) ++ (slotL (f 5) ++ (slotL (f 6) ++ (slotL (f 7) ++ (slotL (f 8) ++ (slotL (f 9) ++ (slotL (f 10) ++ (slotL (f 11) ++ (slotL (f 12) ++ (slotL (f 13) ++ slotL (f 14))))))))))))))
def leafL (l : LeafV) : List LV := u64 (l.p : Nat) :: (slotsL l.slot ++ [u64 l.high.s, uv l.high.c, bv l.bounded, iv l.ns, u64 l.ng])
structure LeafV.ok (l : LeafV) : Prop where
  p : l.p < 18446744073709551616
  slot : ∀ k, k < 15 → (l.slot k).m.ok
  high : l.high.ok
abbrev noMark : MarkV := ⟨0, 0⟩
abbrev noSlot : SlotV := ⟨noMark, noBytes, noBytes, false, 0, 0⟩
abbrev noLeaf : LeafV := ⟨0, fun _ => noSlot, noMark, false, 0, 0⟩
def LeafV.up (l : LeafV) (k : Nat) (s : SlotV) : LeafV := { l with slot := fun j => if j = k then s else l.slot j }
theorem noMark_ok : noMark.ok := ⟨by decide, by decide, by decide, by decide⟩

theorem below15 {Q : Nat → Prop} (h0 : Q 0) (h1 : Q 1) (h2 : Q 2) (h3 : Q 3) (h4 : Q 4) (h5 : Q 5) (h6 : Q 6) (h7 : Q 7) (h8 : Q 8) (h9 : Q 9) (h10 : Q 10) (h11 : Q 11) (h12 : Q 12) (h13 : Q 13) (h14 : Q 14) : ∀ k, k < 15 → Q k := fun k hk => by
  rcases (by omega : k = 0 ∨ k = 1 ∨ k = 2 ∨ k = 3 ∨ k = 4 ∨ k = 5 ∨ k = 6 ∨ k = 7 ∨ k = 8 ∨ k = 9 ∨ k = 10 ∨ k = 11 ∨ k = 12 ∨ k = 13 ∨ k = 14) with h | h | h | h | h | h | h | h | h | h | h | h | h | h | h <;> (rw [h]; assumption)

theorem leafL_len (l : LeafV) : (leafL l).length = 111 := by kernel_rfl
theorem leaf_take (l : LeafV) : ((leafL l).drop 0).take 111 = leafL l := by kernel_rfl
theorem slot_take (l : LeafV) : ∀ k, k < 15 → ((leafL l).drop (1 + k * 7)).take 7 = slotL (l.slot k) := by
  refine below15 ?_ ?_ ?_ ?_ ?_ ?_ ?_ ?_ ?_ ?_ ?_ ?_ ?_ ?_ ?_ <;> kernel_rfl
theorem mark_take (l : LeafV) : ∀ k, k < 15 → ((leafL l).drop (1 + k * 7 + 0)).take 2 = markL (l.slot k).m := by
  refine below15 ?_ ?_ ?_ ?_ ?_ ?_ ?_ ?_ ?_ ?_ ?_ ?_ ?_ ?_ ?_ <;> kernel_rfl
theorem high_take (l : LeafV) : ((leafL l).drop 106).take 2 = markL l.high := by kernel_rfl
theorem next_take (l : LeafV) : ((leafL l).drop 109).take 2 = [iv l.ns, u64 l.ng] := by kernel_rfl

theorem rdLeaf (l : LeafV) {i : TI} (ha : i.isAgg = true := by rfl) (hs : i.size = 111 := by rfl) : readT i ((leafL l).drop 0) = some (.agg (leafL l)) :=
  readT_agg ha (by rw [hs, List.drop_zero, leafL_len]; exact Nat.le_refl _) (by rw [hs]; exact leaf_take l)
theorem rdSlot (l : LeafV) {k : Nat} (hk : k < 15) {i : TI} (ha : i.isAgg = true := by rfl) (hs : i.size = 7 := by rfl) : readT i ((leafL l).drop (1 + k * 7)) = some (.agg (slotL (l.slot k))) :=
  readT_agg ha (by rw [hs, List.length_drop, leafL_len]; omega) (by rw [hs]; exact slot_take l k hk)
theorem rdMark (l : LeafV) {k : Nat} (hk : k < 15) {i : TI} (ha : i.isAgg = true := by rfl) (hs : i.size = 2 := by rfl) : readT i ((leafL l).drop (1 + k * 7 + 0)) = some (.agg (markL (l.slot k).m)) :=
  readT_agg ha (by rw [hs, List.length_drop, leafL_len]; omega) (by rw [hs]; exact mark_take l k hk)
theorem rdHigh (l : LeafV) {i : TI} (ha : i.isAgg = true := by rfl) (hs : i.size = 2 := by rfl) : readT i ((leafL l).drop 106) = some (.agg (markL l.high)) :=
  readT_agg ha (by rw [hs, List.length_drop, leafL_len]; omega) (by rw [hs]; exact high_take l)
theorem rdNext (l : LeafV) {i : TI} (ha : i.isAgg = true := by rfl) (hs : i.size = 2 := by rfl) : readT i ((leafL l).drop 109) = some (.agg [iv l.ns, u64 l.ng]) :=
  readT_agg ha (by rw [hs, List.length_drop, leafL_len]; omega) (by rw [hs]; exact next_take l)
theorem rdPerm (l : LeafV) {i : TI} (ha : i.isAgg = false := by rfl) : readT i ((leafL l).drop 0) = some (.one (u64 (l.p : Nat))) := by
  unfold readT; rw [ha]; rfl
theorem bounded_drop (l : LeafV) : (leafL l).drop 108 = [bv l.bounded, iv l.ns, u64 l.ng] := by kernel_rfl
theorem rdBounded (l : LeafV) {i : TI} (ha : i.isAgg = false := by rfl) : readT i ((leafL l).drop 108) = some (.one (bv l.bounded)) := by
  unfold readT; rw [ha, bounded_drop]; rfl

theorem stSlot (l : LeafV) (s : SlotV) : ∀ k, k < 15 → splice (leafL l) (1 + k * 7) (slotL s) = leafL (l.up k s) := by
  refine below15 ?_ ?_ ?_ ?_ ?_ ?_ ?_ ?_ ?_ ?_ ?_ ?_ ?_ ?_ ?_ <;> kernel_rfl
theorem stPerm (l : LeafV) (p : Nat) : splice (leafL l) 0 [u64 (p : Nat)] = leafL { l with p := p } := by kernel_rfl
theorem stHigh (l : LeafV) (m : MarkV) : splice (leafL l) 106 (markL m) = leafL { l with high := m } := by kernel_rfl
theorem stBounded (l : LeafV) (b : Bool) : splice (leafL l) 108 [bv b] = leafL { l with bounded := b } := by kernel_rfl
theorem stNext (l : LeafV) (x y : Int) : splice (leafL l) 109 [iv x, u64 y] = leafL { l with ns := x, ng := y } := by kernel_rfl
theorem stLeaf (l l2 : LeafV) : splice (leafL l) 0 (leafL l2) = leafL l2 := by kernel_rfl
theorem zeroLeaf : ti31.zero.cells.toList.map constLV = leafL noLeaf := by kernel_rfl
theorem zeroLeaf' : ti45.zero.cells.toList.map constLV = leafL noLeaf := by kernel_rfl

/-- The order of marks; whether one is right; whether a slot is. -/
def lessM (a b : MarkV) : Bool := decide (a.s < b.s) || (decide (a.s = b.s) && decide (a.c < b.c))
def rightM (m : MarkV) : Bool := if m.c ≥ 8 then decide (m.c ≤ 9) else decide (m.s % (256 : Int) ^ (8 - m.c.toNat) = 0)
def rightS (s : SlotV) : Bool := rightM s.m && (if s.deep then decide (s.m.c = 9) && decide (s.rest = noBytes) && decide (s.value = noBytes) else (decide (s.ls = 0) && decide (s.lg = 0)) && (decide (s.m.c = 9) == !decide (s.rest = noBytes)))
def coversL (l : LeafV) (m : MarkV) : Bool := !l.bounded || lessM m l.high
/-- The slot that stands at a rank. -/
def LeafV.rank (l : LeafV) (k : Nat) : SlotV := l.slot (nib l.p k)
def isNo (s : SlotV) : Bool := decide (s.m.s = 0) && decide (s.m.c = 0) && decide (s.rest = noBytes) && decide (s.value = noBytes) && !s.deep && decide (s.ls = 0) && decide (s.lg = 0)
def headR (l : LeafV) : Bool := rt (slots l.p) && (if l.bounded then rightM l.high else decide (l.high.s = 0) && decide (l.high.c = 0))
def rankR (l : LeafV) (k : Nat) : Bool := if k < l.p % 16 then rightS (l.rank k) && (decide (k = 0) || lessM (l.rank (k - 1)).m (l.rank k).m) && coversL l (l.rank k).m else isNo (l.rank k)
def rightL (l : LeafV) : Bool := headR l && (List.range 15).all (rankR l)
end Go.Proofs.Ytgkjhlmfgaaddaa.LF
end

section
/- A leaf's marks: Less, Right, of the code and of the document; their texts. -/
namespace Go.Proofs.Ytgkjhlmfgaaddaa.LF
open Go.RowKit
open Go.Lib (compareBytes)
set_option linter.unusedVariables false

theorem less_M {G : Ctx} (hP : G.P = Try.prog) (a b : MarkV) : LFun G 18 [.agg (markL a), .agg (markL b)] (.one (bv (lessM a b))) := LFun.of fun S => by
  have hD : TabOK G.P D := by rw [hP]; exact hD0
  refine LCalls.enter (fn := Try.f18) (by rw [hP]; exact Try.func18) rfl rfl ?_
  repeat (first | refine LOps.nil ?_ | refine andThen_normal ?_ | refine andThen_exit ?_ | refine andThen_ret ?_ | refine inBlock_normal ?_ | refine inBlock_ret ?_ | refine inBlock_here ?_ | refine inBlock_out rfl ?_ | refine LWp.seq ?_ | refine LWp.region ?_ | refine LWp.block ?_ | refine LWp.exit ?_ | refine LWp.ret ?_ | refine LWp.skip ?_ | refine LOps.valA ?_ | refine LOps.outA ?_ | refine LOps.whenA ?_ | refine LOps.pickA ?_ | refine LOps.storeA ?_)
  have hle := LS.le.refl S
  refine LOps.do (LDo.box rfl rfl) rfl rfl rfl ?_
  rintro _ _ ⟨b2, hb2, rfl, rfl⟩
  have s2 := hle.none hb2
  refine LOps.gen (fun S' => S.le S' ∧ S'.box b2 = some (markL a)) ⟨hle.newBox hb2 _, box_new _ _ _⟩ ?_
  clear hle hb2 
  rintro S2 ⟨hle, k2⟩
  repeat (first | refine LOps.nil ?_ | refine andThen_normal ?_ | refine andThen_exit ?_ | refine andThen_ret ?_ | refine inBlock_normal ?_ | refine inBlock_ret ?_ | refine inBlock_here ?_ | refine inBlock_out rfl ?_ | refine LWp.seq ?_ | refine LWp.region ?_ | refine LWp.block ?_ | refine LWp.exit ?_ | refine LWp.ret ?_ | refine LWp.skip ?_ | refine LOps.valA ?_ | refine LOps.outA ?_ | refine LOps.whenA ?_ | refine LOps.pickA ?_ | refine LOps.storeA ?_)
  skip
  refine LOps.do (LDo.box rfl rfl) rfl rfl rfl ?_
  rintro _ _ ⟨b3, hb3, rfl, rfl⟩
  have n2_3 := fresh_ne hb3 k2
  have m3_2 := n2_3.symm
  have s3 := hle.none hb3
  refine LOps.gen (fun S' => S.le S' ∧ S'.box b2 = some (markL a) ∧ S'.box b3 = some (markL b)) ⟨hle.newBox hb3 _, (box_new_ne _ _ n2_3).trans k2, box_new _ _ _⟩ ?_
  clear hle hb3 k2
  rintro S3 ⟨hle, k2, k3⟩
  repeat (first | refine LOps.nil ?_ | refine andThen_normal ?_ | refine andThen_exit ?_ | refine andThen_ret ?_ | refine inBlock_normal ?_ | refine inBlock_ret ?_ | refine inBlock_here ?_ | refine inBlock_out rfl ?_ | refine LWp.seq ?_ | refine LWp.region ?_ | refine LWp.block ?_ | refine LWp.exit ?_ | refine LWp.ret ?_ | refine LWp.skip ?_ | refine LOps.valA ?_ | refine LOps.outA ?_ | refine LOps.whenA ?_ | refine LOps.pickA ?_ | refine LOps.storeA ?_)
  exact ⟨_, LRes.one rfl, rfl, hle⟩

theorem mark_F {G : Ctx} (hP : G.P = Try.prog) (a : MarkV) : LFun G 22 [.agg (markL a)] (.agg (markL a)) := LFun.of fun S => by
  have hD : TabOK G.P D := by rw [hP]; exact hD0
  refine LCalls.enter (fn := Try.f22) (by rw [hP]; exact Try.func22) rfl rfl ?_
  repeat (first | refine LOps.nil ?_ | refine andThen_normal ?_ | refine andThen_exit ?_ | refine andThen_ret ?_ | refine inBlock_normal ?_ | refine inBlock_ret ?_ | refine inBlock_here ?_ | refine inBlock_out rfl ?_ | refine LWp.seq ?_ | refine LWp.region ?_ | refine LWp.block ?_ | refine LWp.exit ?_ | refine LWp.ret ?_ | refine LWp.skip ?_ | refine LOps.valA ?_ | refine LOps.outA ?_ | refine LOps.whenA ?_ | refine LOps.pickA ?_ | refine LOps.storeA ?_)
  have hle := LS.le.refl S
  refine LOps.do (LDo.box rfl rfl) rfl rfl rfl ?_
  rintro _ _ ⟨b1, hb1, rfl, rfl⟩
  have s1 := hle.none hb1
  refine LOps.gen (fun S' => S.le S' ∧ S'.box b1 = some (markL a)) ⟨hle.newBox hb1 _, box_new _ _ _⟩ ?_
  clear hle hb1 
  rintro S1 ⟨hle, k1⟩
  repeat (first | refine LOps.nil ?_ | refine andThen_normal ?_ | refine andThen_exit ?_ | refine andThen_ret ?_ | refine inBlock_normal ?_ | refine inBlock_ret ?_ | refine inBlock_here ?_ | refine inBlock_out rfl ?_ | refine LWp.seq ?_ | refine LWp.region ?_ | refine LWp.block ?_ | refine LWp.exit ?_ | refine LWp.ret ?_ | refine LWp.skip ?_ | refine LOps.valA ?_ | refine LOps.outA ?_ | refine LOps.whenA ?_ | refine LOps.pickA ?_ | refine LOps.storeA ?_)
  skip
  refine LOps.do (LDo.alloc hD rfl rfl rfl) rfl rfl rfl ?_
  rintro _ _ ⟨b2, hb2, rfl, rfl⟩
  have n1_2 := fresh_ne hb2 k1
  have m2_1 := n1_2.symm
  have s2 := hle.none hb2
  refine LOps.gen (fun S' => S.le S' ∧ S'.box b1 = some (markL a) ∧ S'.box b2 = some (markL noMark)) ⟨hle.newBox hb2 _, (box_new_ne _ _ n1_2).trans k1, box_new _ _ _⟩ ?_
  clear hle hb2 k1
  rintro S2 ⟨hle, k1, k2⟩
  repeat (first | refine LOps.nil ?_ | refine andThen_normal ?_ | refine andThen_exit ?_ | refine andThen_ret ?_ | refine inBlock_normal ?_ | refine inBlock_ret ?_ | refine inBlock_here ?_ | refine inBlock_out rfl ?_ | refine LWp.seq ?_ | refine LWp.region ?_ | refine LWp.block ?_ | refine LWp.exit ?_ | refine LWp.ret ?_ | refine LWp.skip ?_ | refine LOps.valA ?_ | refine LOps.outA ?_ | refine LOps.whenA ?_ | refine LOps.pickA ?_ | refine LOps.storeA ?_)
  exact ⟨_, LRes.cell rfl (.cell rfl (box_set _ _ _) (hP ▸ tok40) rfl), rfl, hle.setBox s2 _⟩

theorem shl_zero (s : Nat) (hs : s < 18446744073709551616) : ∀ c, c < 8 → ((s * 2 ^ (8 * c)) % 18446744073709551616 = 0 ↔ s % 256 ^ (8 - c) = 0) := fun c hc => by
  rcases (by omega : c = 0 ∨ c = 1 ∨ c = 2 ∨ c = 3 ∨ c = 4 ∨ c = 5 ∨ c = 6 ∨ c = 7) with h | h | h | h | h | h | h | h <;> subst h <;> simp only [Nat.reduceMul, Nat.reducePow, Nat.reduceSub] <;> omega

theorem right_M {G : Ctx} (hP : G.P = Try.prog) (m : MarkV) (hm : m.ok) : LFun G 30 [.agg (markL m)] (.one (bv (rightM m))) := LFun.of fun S => by
  have hD : TabOK G.P D := by rw [hP]; exact hD0
  obtain ⟨s0, s1, c0, c1⟩ := hm
  refine LCalls.enter (fn := Try.f30) (by rw [hP]; exact Try.func30) rfl rfl ?_
  repeat (first | refine LOps.nil ?_ | refine andThen_normal ?_ | refine andThen_exit ?_ | refine andThen_ret ?_ | refine inBlock_normal ?_ | refine inBlock_ret ?_ | refine inBlock_here ?_ | refine inBlock_out rfl ?_ | refine LWp.seq ?_ | refine LWp.region ?_ | refine LWp.block ?_ | refine LWp.exit ?_ | refine LWp.ret ?_ | refine LWp.skip ?_ | refine LOps.valA ?_ | refine LOps.outA ?_ | refine LOps.whenA ?_ | refine LOps.pickA ?_ | refine LOps.storeA ?_)
  have hle := LS.le.refl S
  refine LOps.do (LDo.box rfl rfl) rfl rfl rfl ?_
  rintro _ _ ⟨b1, hb1, rfl, rfl⟩
  have s1 := hle.none hb1
  refine LOps.gen (fun S' => S.le S' ∧ S'.box b1 = some (markL m)) ⟨hle.newBox hb1 _, box_new _ _ _⟩ ?_
  clear hle hb1 
  rintro S1 ⟨hle, k1⟩
  repeat (first | refine LOps.nil ?_ | refine andThen_normal ?_ | refine andThen_exit ?_ | refine andThen_ret ?_ | refine inBlock_normal ?_ | refine inBlock_ret ?_ | refine inBlock_here ?_ | refine inBlock_out rfl ?_ | refine LWp.seq ?_ | refine LWp.region ?_ | refine LWp.block ?_ | refine LWp.exit ?_ | refine LWp.ret ?_ | refine LWp.skip ?_ | refine LOps.valA ?_ | refine LOps.outA ?_ | refine LOps.whenA ?_ | refine LOps.pickA ?_ | refine LOps.storeA ?_)
  refine LWp.cond rfl (fun h => ?_) (fun h => ?_)
  · have h : decide (m.c ≥ 8) = true := h
    rw [decide_eq_true_iff] at h
    repeat (first | refine LOps.nil ?_ | refine andThen_normal ?_ | refine andThen_exit ?_ | refine andThen_ret ?_ | refine inBlock_normal ?_ | refine inBlock_ret ?_ | refine inBlock_here ?_ | refine inBlock_out rfl ?_ | refine LWp.seq ?_ | refine LWp.region ?_ | refine LWp.block ?_ | refine LWp.exit ?_ | refine LWp.ret ?_ | refine LWp.skip ?_ | refine LOps.valA ?_ | refine LOps.outA ?_ | refine LOps.whenA ?_ | refine LOps.pickA ?_ | refine LOps.storeA ?_)
    refine ⟨_, LRes.one rfl, ?_, hle⟩
    have e : rightM m = decide (m.c ≤ 9) := by simp only [rightM, if_pos h]
    rw [e]; rfl
  · have h : decide (m.c ≥ 8) = false := h
    rw [decide_eq_false_iff_not] at h
    obtain ⟨s, hs⟩ : ∃ s : Nat, m.s = s := ⟨m.s.toNat, by omega⟩
    obtain ⟨c, hc⟩ : ∃ c : Nat, m.c = c := ⟨m.c.toNat, by omega⟩
    have e8 : IntKind.u8.wrap (8 * m.c) = ((8 * c : Nat) : Int) := by rw [hc, IntKind.wrap_u8]; omega
    have k1' : S1.box b1 = some [u64 (s : Nat), uv m.c] := by rw [k1]; show some [u64 m.s, uv m.c] = _; rw [hs]
    repeat (first | refine LOps.valH (LVal.load hD rfl rfl k1' rfl (r := .one (u64 (s : Nat))) rfl) ?_ | refine LOps.valH (LVal.shlU rfl rfl rfl e8 (by omega)) ?_ | refine LOps.nil ?_ | refine andThen_normal ?_ | refine andThen_exit ?_ | refine andThen_ret ?_ | refine inBlock_normal ?_ | refine inBlock_ret ?_ | refine inBlock_here ?_ | refine inBlock_out rfl ?_ | refine LWp.seq ?_ | refine LWp.region ?_ | refine LWp.block ?_ | refine LWp.exit ?_ | refine LWp.ret ?_ | refine LWp.skip ?_ | refine LOps.valA ?_ | refine LOps.outA ?_ | refine LOps.whenA ?_ | refine LOps.pickA ?_ | refine LOps.storeA ?_)
    refine ⟨_, LRes.one rfl, ?_, hle⟩
    have e : rightM m = decide (m.s % (256 : Int) ^ (8 - m.c.toNat) = 0) := by simp only [rightM, if_neg h]
    have e2 : ((s : Int) % (256 : Int) ^ (8 - c) = 0) ↔ (s % 256 ^ (8 - c) = 0) := by
      have key : ∀ q : Nat, ((s % 256 ^ q : Nat) : Int) = (s : Int) % (256 : Int) ^ q := fun q => by rw [Int.natCast_emod, Int.natCast_pow]; rfl
      rw [← key]
      omega
    rw [e, hs, hc, Int.toNat_natCast]
    have e3 := shl_zero s (by omega) c (by omega)
    show TV.one (bv ((((s * 2 ^ (8 * c)) % 18446744073709551616 : Nat) : Int) == 0)) = _
    congr 2
    rw [Bool.eq_iff_iff, beq_iff_eq, decide_eq_true_iff, e2, ← e3]
    omega
end Go.Proofs.Ytgkjhlmfgaaddaa.LF
end

section
/- A leaf's marks: the document's RightMark, Text, Less; the code's Text. -/
namespace Go.Proofs.Ytgkjhlmfgaaddaa.LF
open Go.RowKit
open Go.Lib (compareBytes)
set_option linter.unusedVariables false

theorem pow_step (s j : Nat) : s / 256 ^ j / 256 = s / 256 ^ (j + 1) := by rw [Nat.div_div_eq_div_mul, Nat.pow_succ]
theorem mod_step (s j : Nat) (h : s % 256 ^ j = 0) : (s % 256 ^ (j + 1) = 0 ↔ s / 256 ^ j % 256 = 0) := by
  have h1 := Nat.mod_mul (x := s) (a := 256 ^ j) (b := 256)
  rw [← Nat.pow_succ] at h1
  rw [h1, h, Nat.zero_add]
  have := Nat.pow_pos (a := 256) (n := j) (by omega)
  constructor
  · intro h2
    rcases Nat.mul_eq_zero.1 h2 with h3 | h3
    · omega
    · exact h3
  · intro h2; rw [h2, Nat.mul_zero]
theorem mod_more (s j m : Nat) (h : s % 256 ^ (j + m) = 0) : s % 256 ^ j = 0 := by
  have h1 : 256 ^ j ∣ 256 ^ (j + m) := ⟨256 ^ m, by rw [Nat.pow_add]⟩
  exact Nat.mod_eq_zero_of_dvd (Nat.dvd_trans h1 (Nat.dvd_of_mod_eq_zero h))

theorem rightM_nat {m : MarkV} {s c : Nat} (hs : m.s = s) (hc : m.c = c) : rightM m = decide (c ≤ 9 ∧ s % 256 ^ (8 - c) = 0) := by
  have key : ∀ q : Nat, ((s % 256 ^ q : Nat) : Int) = (s : Int) % (256 : Int) ^ q := fun q => by rw [Int.natCast_emod, Int.natCast_pow]; rfl
  unfold rightM
  rw [hs, hc, Int.toNat_natCast, ← key]
  rw [Bool.eq_iff_iff]
  split
  · have : 8 - c = 0 := by omega
    rw [this, Nat.pow_zero, Nat.mod_one, decide_eq_true_iff, decide_eq_true_iff]
    omega
  · rw [decide_eq_true_iff, decide_eq_true_iff]
    omega

theorem refRight_M {G : Ctx} (hP : G.P = Try.prog) (m : MarkV) (hm : m.ok) : LFun G 31 [.agg (markL m)] (.one (bv (rightM m))) := LFun.of fun S => by
  have hD : TabOK G.P D := by rw [hP]; exact hD0
  obtain ⟨s0, s1, c0, c1⟩ := hm
  obtain ⟨s, hs⟩ : ∃ s : Nat, m.s = s := ⟨m.s.toNat, by omega⟩
  obtain ⟨c, hc⟩ : ∃ c : Nat, m.c = c := ⟨m.c.toNat, by omega⟩
  rw [rightM_nat hs hc]
  have e0 : markL m = [u64 (s : Nat), uv (c : Nat)] := by show [u64 m.s, uv m.c] = _; rw [hs, hc]
  rw [e0]
  refine LCalls.enter (fn := Try.f31) (by rw [hP]; exact Try.func31) rfl rfl ?_
  repeat (first | refine LOps.nil ?_ | refine andThen_normal ?_ | refine andThen_exit ?_ | refine andThen_ret ?_ | refine inBlock_normal ?_ | refine inBlock_ret ?_ | refine inBlock_here ?_ | refine inBlock_out rfl ?_ | refine LWp.seq ?_ | refine LWp.region ?_ | refine LWp.block ?_ | refine LWp.exit ?_ | refine LWp.ret ?_ | refine LWp.skip ?_ | refine LOps.valA ?_ | refine LOps.outA ?_ | refine LOps.whenA ?_ | refine LOps.pickA ?_ | refine LOps.storeA ?_)
  have hle := LS.le.refl S
  refine LOps.do (LDo.box rfl rfl) rfl rfl rfl ?_
  rintro _ _ ⟨b1, hb1, rfl, rfl⟩
  have s1 := hle.none hb1
  refine LOps.gen (fun S' => S.le S' ∧ S'.box b1 = some ([u64 (s : Nat), uv (c : Nat)])) ⟨hle.newBox hb1 _, box_new _ _ _⟩ ?_
  clear hle hb1 
  rintro S1 ⟨hle, k1⟩
  repeat (first | refine LOps.nil ?_ | refine andThen_normal ?_ | refine andThen_exit ?_ | refine andThen_ret ?_ | refine inBlock_normal ?_ | refine inBlock_ret ?_ | refine inBlock_here ?_ | refine inBlock_out rfl ?_ | refine LWp.seq ?_ | refine LWp.region ?_ | refine LWp.block ?_ | refine LWp.exit ?_ | refine LWp.ret ?_ | refine LWp.skip ?_ | refine LOps.valA ?_ | refine LOps.outA ?_ | refine LOps.whenA ?_ | refine LOps.pickA ?_ | refine LOps.storeA ?_)
  refine LWp.cond rfl (fun h => ?_) (fun h => ?_)
  · have h : decide ((c : Int) > 9) = true := h
    rw [decide_eq_true_iff] at h
    repeat (first | refine LOps.nil ?_ | refine andThen_normal ?_ | refine andThen_exit ?_ | refine andThen_ret ?_ | refine inBlock_normal ?_ | refine inBlock_ret ?_ | refine inBlock_here ?_ | refine inBlock_out rfl ?_ | refine LWp.seq ?_ | refine LWp.region ?_ | refine LWp.block ?_ | refine LWp.exit ?_ | refine LWp.ret ?_ | refine LWp.skip ?_ | refine LOps.valA ?_ | refine LOps.outA ?_ | refine LOps.whenA ?_ | refine LOps.pickA ?_ | refine LOps.storeA ?_)
    refine ⟨_, LRes.one rfl, ?_, hle⟩
    have e : decide (c ≤ 9 ∧ s % 256 ^ (8 - c) = 0) = false := decide_eq_false (by omega)
    rw [e]; rfl
  have h : decide ((c : Int) > 9) = false := h
  rw [decide_eq_false_iff_not] at h
  repeat (first | refine LOps.nil ?_ | refine andThen_normal ?_ | refine andThen_exit ?_ | refine andThen_ret ?_ | refine inBlock_normal ?_ | refine inBlock_ret ?_ | refine inBlock_here ?_ | refine inBlock_out rfl ?_ | refine LWp.seq ?_ | refine LWp.region ?_ | refine LWp.block ?_ | refine LWp.exit ?_ | refine LWp.ret ?_ | refine LWp.skip ?_ | refine LOps.valA ?_ | refine LOps.outA ?_ | refine LOps.whenA ?_ | refine LOps.pickA ?_ | refine LOps.storeA ?_)
  refine LWp.loop (fun k T S' => S' = S1 ∧ ∃ (T' : Nat → TV) (j : Nat), j ≤ 8 ∧ (j = 0 ∨ j ≤ 8 - c) ∧ k = 8 - j ∧ s % 256 ^ j = 0 ∧ T = over T' [(1, ptr b1), (3, .one (u64 (s / 256 ^ j : Nat))), (4, .one (iv ((8 - j : Nat) : Int)))]) 8 ?_ ?_
  · exact ⟨rfl, _, 0, by omega, .inl rfl, rfl, by rw [Nat.pow_zero, Nat.mod_one], holds.over ⟨rfl, by rw [Nat.pow_zero, Nat.div_one]; rfl, rfl, trivial⟩⟩
  rintro k T S' ⟨rfl, T', j, hj, hjc, rfl, hmod, rfl⟩
  repeat (first | refine LOps.nil ?_ | refine andThen_normal ?_ | refine andThen_exit ?_ | refine andThen_ret ?_ | refine inBlock_normal ?_ | refine inBlock_ret ?_ | refine inBlock_here ?_ | refine inBlock_out rfl ?_ | refine LWp.seq ?_ | refine LWp.region ?_ | refine LWp.block ?_ | refine LWp.exit ?_ | refine LWp.ret ?_ | refine LWp.skip ?_ | refine LOps.valA ?_ | refine LOps.outA ?_ | refine LOps.whenA ?_ | refine LOps.pickA ?_ | refine LOps.storeA ?_)
  refine LWp.cond rfl (fun h2 => ?_) (fun h2 => ?_)
  · have hlt : c < 8 - j := by
      have h2 : decide ((((8 - j : Nat) : Int)) > (c : Int)) = true := h2
      rw [decide_eq_true_iff] at h2; omega
    repeat (first | refine LOps.nil ?_ | refine andThen_normal ?_ | refine andThen_exit ?_ | refine andThen_ret ?_ | refine inBlock_normal ?_ | refine inBlock_ret ?_ | refine inBlock_here ?_ | refine inBlock_out rfl ?_ | refine LWp.seq ?_ | refine LWp.region ?_ | refine LWp.block ?_ | refine LWp.exit ?_ | refine LWp.ret ?_ | refine LWp.skip ?_ | refine LOps.valA ?_ | refine LOps.outA ?_ | refine LOps.whenA ?_ | refine LOps.pickA ?_ | refine LOps.storeA ?_)
    refine LWp.cond rfl (fun h3 => ?_) (fun h3 => ?_)
    · have h3 : (((s / 256 ^ j % 256 : Nat) : Int) != 0) = true := h3
      rw [bne_iff_ne] at h3
      repeat (first | refine LOps.nil ?_ | refine andThen_normal ?_ | refine andThen_exit ?_ | refine andThen_ret ?_ | refine inBlock_normal ?_ | refine inBlock_ret ?_ | refine inBlock_here ?_ | refine inBlock_out rfl ?_ | refine LWp.seq ?_ | refine LWp.region ?_ | refine LWp.block ?_ | refine LWp.exit ?_ | refine LWp.ret ?_ | refine LWp.skip ?_ | refine LOps.valA ?_ | refine LOps.outA ?_ | refine LOps.whenA ?_ | refine LOps.pickA ?_ | refine LOps.storeA ?_)
      refine ⟨_, LRes.one rfl, ?_, hle⟩
      have e : decide (c ≤ 9 ∧ s % 256 ^ (8 - c) = 0) = false := decide_eq_false (fun h4 => by
        obtain ⟨_, h4⟩ := h4
        have h5 := mod_more s (j + 1) (8 - c - (j + 1)) (by rw [show j + 1 + (8 - c - (j + 1)) = 8 - c by omega]; exact h4)
        have := (mod_step s j hmod).1 h5
        omega)
      rw [e]; rfl
    · have h3 : (((s / 256 ^ j % 256 : Nat) : Int) != 0) = false := h3
      rw [bne_eq_false_iff_eq] at h3
      have hq := pow_step s j
      have hquo : TV.one (.v (.int .u64 (IntKind.u64.wrap (((s / 256 ^ j : Nat) : Int).tdiv 256)))) = .one (u64 ((s / 256 ^ (j + 1) : Nat) : Int)) := by
        have hle := Nat.div_le_self s (256 ^ j)
        rw [IntKind.wrap_u64, ← hq]
        generalize s / 256 ^ j = q at hle
        congr 3
        show ((q / 256 : Nat) : Int) % 18446744073709551616 = _
        omega
      repeat (first | refine LOps.nil ?_ | refine andThen_normal ?_ | refine andThen_exit ?_ | refine andThen_ret ?_ | refine inBlock_normal ?_ | refine inBlock_ret ?_ | refine inBlock_here ?_ | refine inBlock_out rfl ?_ | refine LWp.seq ?_ | refine LWp.region ?_ | refine LWp.block ?_ | refine LWp.exit ?_ | refine LWp.ret ?_ | refine LWp.skip ?_ | refine LOps.valA ?_ | refine LOps.outA ?_ | refine LOps.whenA ?_ | refine LOps.pickA ?_ | refine LOps.storeA ?_)
      exact ⟨8 - (j + 1), by omega, rfl, _, j + 1, by omega, .inr (by omega), rfl, (mod_step s j hmod).2 (by omega), holds.over ⟨rfl, hquo, by show TV.one (iv (((8 - j : Nat) : Int) - 1)) = _; congr 3; omega, trivial⟩⟩
  · have hge : 8 - j ≤ c := by
      have h2 : decide ((((8 - j : Nat) : Int)) > (c : Int)) = false := h2
      rw [decide_eq_false_iff_not] at h2; omega
    repeat (first | refine LOps.nil ?_ | refine andThen_normal ?_ | refine andThen_exit ?_ | refine andThen_ret ?_ | refine inBlock_normal ?_ | refine inBlock_ret ?_ | refine inBlock_here ?_ | refine inBlock_out rfl ?_ | refine LWp.seq ?_ | refine LWp.region ?_ | refine LWp.block ?_ | refine LWp.exit ?_ | refine LWp.ret ?_ | refine LWp.skip ?_ | refine LOps.valA ?_ | refine LOps.outA ?_ | refine LOps.whenA ?_ | refine LOps.pickA ?_ | refine LOps.storeA ?_)
    refine ⟨_, LRes.one rfl, ?_, hle⟩
    have e : decide (c ≤ 9 ∧ s % 256 ^ (8 - c) = 0) = true := decide_eq_true ⟨by omega, ?_⟩
    · rw [e]; rfl
    · rcases hjc with h4 | h4
      · have : 8 - c = 0 := by omega
        rw [this, Nat.pow_zero, Nat.mod_one]
      · have : 8 - c = j := by omega
        rw [this]; exact hmod
end Go.Proofs.Ytgkjhlmfgaaddaa.LF
end

section
/- The texts of marks, and their order. -/
namespace Go.Proofs.Ytgkjhlmfgaaddaa.LF
open Go.RowKit
open Go.Lib (compareBytes)
set_option linter.unusedVariables false

/-- A mark's text: nine bytes. -/
def textB (m : MarkV) : List UInt8 := unslB m.s.toNat 8 ++ [UInt8.ofNat m.c.toNat]
def textM (m : MarkV) : ByteArray := ⟨(textB m).toArray⟩
theorem textB_length (m : MarkV) : (textB m).length = 9 := by simp [textB, unslB_length]

theorem slNum_unslB (n : Nat) (hn : n < 18446744073709551616) : ∀ k, k ≤ 8 → slNum (unslB n 8) k = n / 2 ^ (8 * (8 - k)) := by
  intro k
  induction k with
  | zero => intro _; show 0 = _; simp only [Nat.sub_zero, Nat.reduceMul, Nat.reducePow]; omega
  | succ k ih =>
    intro hk
    rw [slNum, ih (by omega), unslB_get _ _ _ (by omega), Option.getD_some, ub_toNat]
    have e1 : 8 * (8 - k) = 8 * (7 - k) + 8 := by omega
    have e2 : 8 - (k + 1) = 7 - k := by omega
    rw [e1, e2, Nat.pow_add, ← Nat.div_div_eq_div_mul]
    omega
theorem slNum_textB {m : MarkV} (hm : m.ok) : slNum (textB m) 8 = m.s.toNat := by
  obtain ⟨s0, s1, _, _⟩ := hm
  have e : slNum (textB m) 8 = slNum (unslB m.s.toNat 8) 8 := slNum_congr _ _ 8 fun i hi => by
    unfold textB
    rw [List.getElem?_append_left (by rw [unslB_length]; exact hi)]
  rw [e, slNum_unslB _ (by omega) 8 (Nat.le_refl _)]
  simp

theorem textM_less {a b : MarkV} (ha : a.ok) (hb : b.ok) : ltS (textM a) (textM b) = lessM a b := by
  have h := cut_cmp (textB a) (textB b)
  rw [slNum_textB ha, slNum_textB hb, textB_length, textB_length] at h
  have d1 : (textB a).drop 8 = [UInt8.ofNat a.c.toNat] := List.drop_left' (by rw [unslB_length])
  have d2 : (textB b).drop 8 = [UInt8.ofNat b.c.toNat] := List.drop_left' (by rw [unslB_length])
  rw [d1, d2] at h
  obtain ⟨a0, a1, a2, a3⟩ := ha
  obtain ⟨b0, b1, b2, b3⟩ := hb
  have hc : compareBytes [UInt8.ofNat a.c.toNat] [UInt8.ofNat b.c.toNat] < 0 ↔ a.c < b.c := by
    rw [cmp_eq_if]
    have e : ([UInt8.ofNat a.c.toNat] : List UInt8) < [UInt8.ofNat b.c.toNat] ↔ a.c < b.c := by
      rw [List.cons_lt_cons_iff]
      have e1 : (UInt8.ofNat a.c.toNat < UInt8.ofNat b.c.toNat) ↔ a.c < b.c := by
        rw [UInt8.lt_iff_toNat_lt]
        simp
        omega
      rw [e1]
      simp [List.lt_irrefl]
    split
    · rename_i h1; rw [← e]; simp [h1]
    · rename_i h1; rw [← e]
      split <;> simp [h1]
  have hl : ltS (textM a) (textM b) = true ↔ compareBytes (textB a) (textB b) < 0 := by
    rw [← cmpS_lt]; rfl
  rw [Bool.eq_iff_iff, hl, h]
  unfold lessM cutWant
  simp only [Bool.or_eq_true, Bool.and_eq_true, decide_eq_true_eq]
  split
  · constructor
    · intro _; left; omega
    · intro _; decide
  split
  · constructor
    · intro h; omega
    · rintro (h | ⟨h, _⟩) <;> omega
  rw [if_neg (by omega), if_neg (by omega), if_pos (by rfl), hc]
  constructor
  · intro h; right; exact ⟨by omega, h⟩
  · rintro (h | ⟨_, h⟩)
    · omega
    · exact h
end Go.Proofs.Ytgkjhlmfgaaddaa.LF
end

section
/- A leaf's marks: Text, of the code and of the document; the document's Less; Of, and the document's Slice. -/
namespace Go.Proofs.Ytgkjhlmfgaaddaa.LF
open Go.RowKit Go.Deep
set_option linter.unusedVariables false

theorem unslice_F {G : Ctx} (hP : G.P = Try.prog) (n : Nat) (c : Int) (hn : n < 18446744073709551616) : LFun G 53 [.one (u64 (n : Nat)), .one (iv c)] (.one (sv ⟨(unsl n c).toArray⟩)) :=
  .flat [.int .u64 n, .int .i64 c] rfl rfl fun w => by rw [hP]; exact unslice_any n c w hn

theorem markL_of {m : MarkV} (hm : m.ok) : ∃ (s : Nat) (x : UInt8), m.s = s ∧ s < 18446744073709551616 ∧ m.c = (x.toNat : Nat) ∧ markL m = [u64 (s : Nat), uv (x.toNat : Nat)] ∧ textM m = ⟨(unslB s 8 ++ [x]).toArray⟩ := by
  obtain ⟨s0, s1, c0, c1⟩ := hm
  have hc : m.c = ((UInt8.ofNat m.c.toNat).toNat : Nat) := by simp; omega
  refine ⟨m.s.toNat, UInt8.ofNat m.c.toNat, by omega, by omega, hc, ?_, rfl⟩
  have hs : m.s = ((m.s.toNat : Nat) : Int) := by omega
  show [u64 m.s, uv m.c] = _
  rw [← hs, ← hc]

set_option maxHeartbeats 1000000 in
theorem text_F {G : Ctx} (hP : G.P = Try.prog) (m : MarkV) (hm : m.ok) : LFun G 32 [.agg (markL m)] (.one (sv (textM m))) := LFun.of fun S => by
  have hD : TabOK G.P D := by rw [hP]; exact hD0
  obtain ⟨s, x, _, hs, _, e0, e1⟩ := markL_of hm
  rw [e0, e1]
  have hu := unslice_F hP s 8 hs
  have hu8 : unsl s 8 = unslB s 8 := rfl
  rw [hu8] at hu
  have hsz : (⟨(unslB s 8).toArray⟩ : ByteArray).size = 8 := by
    show (unslB s 8).toArray.size = 8
    rw [List.size_toArray, unslB_length]
  have hsz1 : (⟨[x].toArray⟩ : ByteArray).size = 1 := rfl
  refine LCalls.enter (fn := Try.f32) (by rw [hP]; exact Try.func32) rfl rfl ?_
  repeat (first | refine LOps.nil ?_ | refine andThen_normal ?_ | refine andThen_exit ?_ | refine andThen_ret ?_ | refine inBlock_normal ?_ | refine inBlock_ret ?_ | refine inBlock_here ?_ | refine inBlock_out rfl ?_ | refine LWp.seq ?_ | refine LWp.region ?_ | refine LWp.block ?_ | refine LWp.exit ?_ | refine LWp.ret ?_ | refine LWp.skip ?_ | refine LOps.valA ?_ | refine LOps.outA ?_ | refine LOps.whenA ?_ | refine LOps.pickA ?_ | refine LOps.storeA ?_)
  have hle := LS.le.refl S
  refine LOps.do (LDo.box rfl rfl) rfl rfl rfl ?_
  rintro _ _ ⟨b1, hb1, rfl, rfl⟩
  have s1 := hle.none hb1
  refine LOps.gen (fun S' => S.le S' ∧ S'.box b1 = some ([u64 (s : Nat), uv (x.toNat : Nat)])) ⟨hle.newBox hb1 _, box_new _ _ _⟩ ?_
  clear hle hb1 
  rintro S1 ⟨hle, k1⟩
  repeat (first | refine LOps.nil ?_ | refine andThen_normal ?_ | refine andThen_exit ?_ | refine andThen_ret ?_ | refine inBlock_normal ?_ | refine inBlock_ret ?_ | refine inBlock_here ?_ | refine inBlock_out rfl ?_ | refine LWp.seq ?_ | refine LWp.region ?_ | refine LWp.block ?_ | refine LWp.exit ?_ | refine LWp.ret ?_ | refine LWp.skip ?_ | refine LOps.valA ?_ | refine LOps.outA ?_ | refine LOps.whenA ?_ | refine LOps.pickA ?_ | refine LOps.storeA ?_)
  refine LWp.drawL [0, 1, 2, 3, 4, 5, 6, 7, 8] (by rw [hP]; rfl) rfl ?_
  repeat (first | refine LRl.valC (fun _ => LVal.bytesStr (bs := [x]) hD rfl rfl rfl rfl rfl rfl rfl rfl) ?_ | refine LRl.valC (fun _ => LVal.addStr rfl rfl rfl (by rw [hsz, hsz1]; omega)) ?_ | refine LRl.valC (fun _ => (LVal.call rfl rfl (by rw [hP]; exact Try.func53) rfl (by decide) (hu))) ?_ | refine LRl.whenC (fun _ => (LVal.call rfl rfl (by rw [hP]; exact Try.func53) rfl (by decide) (hu))) ?_ | refine LRl.nil ?_ | refine LRl.valA ?_ | refine LRl.outA ?_ | refine LRl.whenA ?_ | refine LRl.pickA ?_)
  repeat (first | refine LOps.nil ?_ | refine andThen_normal ?_ | refine andThen_exit ?_ | refine andThen_ret ?_ | refine inBlock_normal ?_ | refine inBlock_ret ?_ | refine inBlock_here ?_ | refine inBlock_out rfl ?_ | refine LWp.seq ?_ | refine LWp.region ?_ | refine LWp.block ?_ | refine LWp.exit ?_ | refine LWp.ret ?_ | refine LWp.skip ?_ | refine LOps.valA ?_ | refine LOps.outA ?_ | refine LOps.whenA ?_ | refine LOps.pickA ?_ | refine LOps.storeA ?_)
  refine ⟨_, LRes.one rfl, ?_, hle⟩
  exact congrArg (fun b => TV.one (sv b)) (show (⟨(unslB s 8).toArray⟩ ++ ⟨[x].toArray⟩ : ByteArray) = ⟨(unslB s 8 ++ [x]).toArray⟩ from ByteArray.ext (by rw [ByteArray.data_append]; simp))

/-- The row of a text, so far. -/
def rowT (s j : Nat) : List LV := (List.range 9).map fun q => if 8 - j ≤ q ∧ q < 8 then uv ((ub s q).toNat : Nat) else uv 0
theorem rowT_zero (s : Nat) : List.replicate 9 (uv 0) = rowT s 0 := by kernel_rfl
theorem rowT_set (s : Nat) : ∀ j, j < 8 → splice (rowT s j) (7 - j) [uv ((ub s (7 - j)).toNat : Nat)] = rowT s (j + 1) := fun j hj => by
  rcases (by omega : j = 0 ∨ j = 1 ∨ j = 2 ∨ j = 3 ∨ j = 4 ∨ j = 5 ∨ j = 6 ∨ j = 7) with h | h | h | h | h | h | h | h <;> (subst h; kernel_rfl)
theorem rowT_end (s : Nat) (x : UInt8) : splice (rowT s 8) 8 [uv (x.toNat : Nat)] = ((unslB s 8 ++ [x]).map byL).flatten := by kernel_rfl
theorem rowT_len (s j : Nat) : (rowT s j).length = 9 := by simp [rowT]
theorem ub_down (s j : Nat) (hj : j < 8) : (ub s (7 - j)).toNat = s / 256 ^ j % 256 := by
  rw [ub_toNat, show 8 * (7 - (7 - j)) = 8 * j by omega, Nat.pow_mul]

set_option maxHeartbeats 2000000 in
theorem refText_F {G : Ctx} (hP : G.P = Try.prog) (m : MarkV) (hm : m.ok) : LFun G 33 [.agg (markL m)] (.one (sv (textM m))) := LFun.of fun S => by
  have hD : TabOK G.P D := by rw [hP]; exact hD0
  obtain ⟨s, x, _, hs, _, e0, e1⟩ := markL_of hm
  rw [e0, e1]
  refine LCalls.enter (fn := Try.f33) (by rw [hP]; exact Try.func33) rfl rfl ?_
  repeat (first | refine LOps.nil ?_ | refine andThen_normal ?_ | refine andThen_exit ?_ | refine andThen_ret ?_ | refine inBlock_normal ?_ | refine inBlock_ret ?_ | refine inBlock_here ?_ | refine inBlock_out rfl ?_ | refine LWp.seq ?_ | refine LWp.region ?_ | refine LWp.block ?_ | refine LWp.exit ?_ | refine LWp.ret ?_ | refine LWp.skip ?_ | refine LOps.valA ?_ | refine LOps.outA ?_ | refine LOps.whenA ?_ | refine LOps.pickA ?_ | refine LOps.storeA ?_)
  have hle := LS.le.refl S
  refine LOps.do (LDo.box rfl rfl) rfl rfl rfl ?_
  rintro _ _ ⟨b1, hb1, rfl, rfl⟩
  have s1 := hle.none hb1
  refine LOps.gen (fun S' => S.le S' ∧ S'.box b1 = some ([u64 (s : Nat), uv (x.toNat : Nat)])) ⟨hle.newBox hb1 _, box_new _ _ _⟩ ?_
  clear hle hb1 
  rintro S1 ⟨hle, k1⟩
  repeat (first | refine LOps.nil ?_ | refine andThen_normal ?_ | refine andThen_exit ?_ | refine andThen_ret ?_ | refine inBlock_normal ?_ | refine inBlock_ret ?_ | refine inBlock_here ?_ | refine inBlock_out rfl ?_ | refine LWp.seq ?_ | refine LWp.region ?_ | refine LWp.block ?_ | refine LWp.exit ?_ | refine LWp.ret ?_ | refine LWp.skip ?_ | refine LOps.valA ?_ | refine LOps.outA ?_ | refine LOps.whenA ?_ | refine LOps.pickA ?_ | refine LOps.storeA ?_)
  refine LOps.do (LDo.makeBytes (n := 9) hD rfl rfl rfl rfl rfl (by rw [hP]; exact Try.infoU8) rfl rfl rfl (by omega)) rfl rfl rfl ?_
  rintro _ _ ⟨b3, hb3, rfl, rfl⟩
  have n1_3 := fresh_ne hb3 k1
  have m3_1 := n1_3.symm
  have s3 := hle.none hb3
  refine LOps.gen (fun S' => S.le S' ∧ S'.box b1 = some [u64 (s : Nat), uv (x.toNat : Nat)] ∧ S'.box b3 = some (rowT s 0)) ⟨hle.newBox hb3 _, (box_new_ne _ _ n1_3).trans k1, (box_new _ _ _).trans (congrArg some (rowT_zero s))⟩ ?_
  clear hle k1 hb3
  rintro S3 ⟨hle, k1, k3⟩
  repeat (first | refine LWp.seq (LWp.cut 3 (fun T' S' => S.le S' ∧ S'.box b1 = some [u64 (s : Nat), uv (x.toNat : Nat)] ∧ S'.box b3 = some (rowT s 8) ∧ ∃ T'', T' = over T'' [(1, ptr b1), (3, .one (rsl b3 0 9 9))]) rfl ?_ ?_) | refine LOps.nil ?_ | refine andThen_normal ?_ | refine andThen_exit ?_ | refine andThen_ret ?_ | refine inBlock_normal ?_ | refine inBlock_ret ?_ | refine inBlock_here ?_ | refine inBlock_out rfl ?_ | refine LWp.seq ?_ | refine LWp.region ?_ | refine LWp.block ?_ | refine LWp.exit ?_ | refine LWp.ret ?_ | refine LWp.skip ?_ | refine LOps.valA ?_ | refine LOps.outA ?_ | refine LOps.whenA ?_ | refine LOps.pickA ?_ | refine LOps.storeA ?_)
  · repeat (first | refine LOps.nil ?_ | refine andThen_normal ?_ | refine andThen_exit ?_ | refine andThen_ret ?_ | refine inBlock_normal ?_ | refine inBlock_ret ?_ | refine inBlock_here ?_ | refine inBlock_out rfl ?_ | refine LWp.seq ?_ | refine LWp.region ?_ | refine LWp.block ?_ | refine LWp.exit ?_ | refine LWp.ret ?_ | refine LWp.skip ?_ | refine LOps.valA ?_ | refine LOps.outA ?_ | refine LOps.whenA ?_ | refine LOps.pickA ?_ | refine LOps.storeA ?_)
    refine LWp.loop (fun k T S' => ∃ (T' : Nat → TV) (j : Nat), j ≤ 8 ∧ k = 8 - j ∧ S.le S' ∧ S'.box b1 = some [u64 (s : Nat), uv (x.toNat : Nat)] ∧ S'.box b3 = some (rowT s j) ∧ T = over T' [(1, ptr b1), (3, .one (rsl b3 0 9 9)), (4, .one (u64 (s / 256 ^ j : Nat))), (5, .one (iv (7 - (j : Int))))]) 8 ?_ ?_
    · exact ⟨_, 0, by omega, rfl, hle, k1, k3, holds.over ⟨rfl, rfl, by rw [Nat.pow_zero, Nat.div_one]; rfl, rfl, trivial⟩⟩
    clear hle k1 k3
    rintro k T S4 ⟨T', j, hj, rfl, hle, k1, k3, rfl⟩
    repeat (first | refine LOps.nil ?_ | refine andThen_normal ?_ | refine andThen_exit ?_ | refine andThen_ret ?_ | refine inBlock_normal ?_ | refine inBlock_ret ?_ | refine inBlock_here ?_ | refine inBlock_out rfl ?_ | refine LWp.seq ?_ | refine LWp.region ?_ | refine LWp.block ?_ | refine LWp.exit ?_ | refine LWp.ret ?_ | refine LWp.skip ?_ | refine LOps.valA ?_ | refine LOps.outA ?_ | refine LOps.whenA ?_ | refine LOps.pickA ?_ | refine LOps.storeA ?_)
    refine LWp.cond rfl (fun h2 => ?_) (fun h2 => ?_)
    · have hlt : j < 8 := by
        have h2 : decide (7 - (j : Int) ≥ 0) = true := h2
        rw [decide_eq_true_iff] at h2; omega
      have hi1 : (7 - (j : Int)).toNat = 7 - j := by omega
      have hi2 : 0 ≤ 7 - (j : Int) := by omega
      have hi3 : 7 - (j : Int) < ((9 : Nat) : Int) := by omega
      have hq := pow_step s j
      have hquo : TV.one (.v (.int .u64 (IntKind.u64.wrap (((s / 256 ^ j : Nat) : Int).tdiv 256)))) = .one (u64 ((s / 256 ^ (j + 1) : Nat) : Int)) := by
        have hle := Nat.div_le_self s (256 ^ j)
        rw [IntKind.wrap_u64, ← hq]
        generalize s / 256 ^ j = q at hle
        congr 3
        show ((q / 256 : Nat) : Int) % 18446744073709551616 = _
        omega
      have hbyte : TV.one (.v (.int .u8 (IntKind.u8.wrap (((s / 256 ^ j : Nat) : Int).tmod 256)))) = .one (uv ((ub s (7 - j)).toNat : Nat)) := by
        rw [IntKind.wrap_u8, ub_down s j hlt]
        congr 3
        show ((s / 256 ^ j % 256 : Nat) : Int) % 256 = _
        omega
      repeat (first | refine LOps.val (LVal.to (LVal.convInt hD rfl rfl rfl rfl rfl) (r' := .one (uv ((ub s (7 - j)).toNat : Nat))) hbyte) rfl rfl rfl ?_ | refine LOps.val (LVal.to (LVal.indexR hD rfl rfl rfl rfl rfl rfl hi2 hi3) (r' := .one (.v (.pointer (some ⟨b3, 7 - j, none⟩)))) (by rw [hi1]; exact congrArg (fun q => TV.one (.v (.pointer (some ⟨b3, q, none⟩)))) (show 0 + (7 - j) * 1 = 7 - j by omega))) rfl rfl rfl ?_ | refine LOps.nil ?_ | refine andThen_normal ?_ | refine andThen_exit ?_ | refine andThen_ret ?_ | refine inBlock_normal ?_ | refine inBlock_ret ?_ | refine inBlock_here ?_ | refine inBlock_out rfl ?_ | refine LWp.seq ?_ | refine LWp.region ?_ | refine LWp.block ?_ | refine LWp.exit ?_ | refine LWp.ret ?_ | refine LWp.skip ?_ | refine LOps.valA ?_ | refine LOps.outA ?_ | refine LOps.whenA ?_ | refine LOps.pickA ?_ | refine LOps.storeA ?_)
      refine LOps.do0 (LDo.store hD rfl rfl k3 rfl rfl rfl (Nat.ble_eq_true_of_le (by rw [rowT_len]; show 7 - j + 1 ≤ 9; omega))) rfl rfl ?_
      rintro _ _ ⟨rfl, rfl⟩
      rw [rowT_set s j hlt]
      repeat (first | refine LOps.nil ?_ | refine andThen_normal ?_ | refine andThen_exit ?_ | refine andThen_ret ?_ | refine inBlock_normal ?_ | refine inBlock_ret ?_ | refine inBlock_here ?_ | refine inBlock_out rfl ?_ | refine LWp.seq ?_ | refine LWp.region ?_ | refine LWp.block ?_ | refine LWp.exit ?_ | refine LWp.ret ?_ | refine LWp.skip ?_ | refine LOps.valA ?_ | refine LOps.outA ?_ | refine LOps.whenA ?_ | refine LOps.pickA ?_ | refine LOps.storeA ?_)
      exact ⟨8 - (j + 1), by omega, _, j + 1, by omega, rfl, hle.setBox s3 _, (box_set_ne _ _ n1_3).trans k1, box_set _ _ _, holds.over ⟨rfl, rfl, hquo, congrArg (fun q => TV.one (iv q)) (show 7 - (j : Int) - 1 = 7 - ((j + 1 : Nat) : Int) by omega), trivial⟩⟩
    · have hge : j = 8 := by
        have h2 : decide (7 - (j : Int) ≥ 0) = false := h2
        rw [decide_eq_false_iff_not] at h2; omega
      subst hge
      repeat (first | refine LOps.nil ?_ | refine andThen_normal ?_ | refine andThen_exit ?_ | refine andThen_ret ?_ | refine inBlock_normal ?_ | refine inBlock_ret ?_ | refine inBlock_here ?_ | refine inBlock_out rfl ?_ | refine LWp.seq ?_ | refine LWp.region ?_ | refine LWp.block ?_ | refine LWp.exit ?_ | refine LWp.ret ?_ | refine LWp.skip ?_ | refine LOps.valA ?_ | refine LOps.outA ?_ | refine LOps.whenA ?_ | refine LOps.pickA ?_ | refine LOps.storeA ?_)
      exact ⟨hle, k1, k3, _, holds.over ⟨rfl, rfl, trivial⟩⟩
  clear hle k1 k3
  rintro _ S5 ⟨hle, k1, k3, T', rfl⟩
  repeat (first | refine LOps.val (LVal.to (LVal.indexR hD rfl rfl rfl rfl rfl rfl (by omega) (by omega)) (r' := .one (.v (.pointer (some ⟨b3, 8, none⟩)))) rfl) rfl rfl rfl ?_ | refine LOps.nil ?_ | refine andThen_normal ?_ | refine andThen_exit ?_ | refine andThen_ret ?_ | refine inBlock_normal ?_ | refine inBlock_ret ?_ | refine inBlock_here ?_ | refine inBlock_out rfl ?_ | refine LWp.seq ?_ | refine LWp.region ?_ | refine LWp.block ?_ | refine LWp.exit ?_ | refine LWp.ret ?_ | refine LWp.skip ?_ | refine LOps.valA ?_ | refine LOps.outA ?_ | refine LOps.whenA ?_ | refine LOps.pickA ?_ | refine LOps.storeA ?_)
  refine LOps.gen (fun S' => S.le S' ∧ S'.box b3 = some ((unslB s 8 ++ [x]).map byL).flatten) ⟨hle.setBox s3 _, (box_set _ _ _).trans (congrArg some (rowT_end s x))⟩ ?_
  clear hle k1 k3
  rintro S6 ⟨hle, k3⟩
  have hfl : ((unslB s 8 ++ [x]).map byL).flatten.length = 9 := by rw [flatten_length (byL_len _), List.length_map, List.length_append, unslB_length]; rfl
  have hml : ((unslB s 8 ++ [x]).map byL).length = 9 := by rw [List.length_map, List.length_append, unslB_length]; rfl
  refine LOps.freeze 25 (es := (unslB s 8 ++ [x]).map byL) (z := 1) (by rw [hml]; rfl) k3 ⟨byL_len _, ?_, ?_, ?_⟩ ?_
  · rw [List.drop_zero, hml, List.take_of_length_le (by rw [hfl]; omega)]
  · rw [hml, hfl]; omega
  · rw [hml]; omega
  repeat (first | refine LOps.val (LVal.bytesStr hD rfl rfl rfl rfl rfl rfl rfl rfl) rfl rfl rfl ?_ | refine LOps.nil ?_ | refine andThen_normal ?_ | refine andThen_exit ?_ | refine andThen_ret ?_ | refine inBlock_normal ?_ | refine inBlock_ret ?_ | refine inBlock_here ?_ | refine inBlock_out rfl ?_ | refine LWp.seq ?_ | refine LWp.region ?_ | refine LWp.block ?_ | refine LWp.exit ?_ | refine LWp.ret ?_ | refine LWp.skip ?_ | refine LOps.valA ?_ | refine LOps.outA ?_ | refine LOps.whenA ?_ | refine LOps.pickA ?_ | refine LOps.storeA ?_)
  exact ⟨_, LRes.one rfl, rfl, hle.delBox s3⟩

theorem refLess_M {G : Ctx} (hP : G.P = Try.prog) (a b : MarkV) (ha : a.ok) (hb : b.ok) : LFun G 34 [.agg (markL a), .agg (markL b)] (.one (bv (lessM a b))) := LFun.of fun S => by
  have hD : TabOK G.P D := by rw [hP]; exact hD0
  have h1 := refText_F hP a ha
  have h2 := refText_F hP b hb
  have sa : (textM a).size ≤ 9223372036854775806 := by
    show (textB a).toArray.size ≤ _
    rw [List.size_toArray, textB_length]; omega
  have sb : (textM b).size ≤ 9223372036854775806 := by
    show (textB b).toArray.size ≤ _
    rw [List.size_toArray, textB_length]; omega
  have h3 := less_F hP (textM a) (textM b) sa sb
  rw [textM_less ha hb] at h3
  refine LCalls.enter (fn := Try.f34) (by rw [hP]; exact Try.func34) rfl rfl ?_
  repeat (first | refine LOps.nil ?_ | refine andThen_normal ?_ | refine andThen_exit ?_ | refine andThen_ret ?_ | refine inBlock_normal ?_ | refine inBlock_ret ?_ | refine inBlock_here ?_ | refine inBlock_out rfl ?_ | refine LWp.seq ?_ | refine LWp.region ?_ | refine LWp.block ?_ | refine LWp.exit ?_ | refine LWp.ret ?_ | refine LWp.skip ?_ | refine LOps.valA ?_ | refine LOps.outA ?_ | refine LOps.whenA ?_ | refine LOps.pickA ?_ | refine LOps.storeA ?_)
  have hle := LS.le.refl S
  refine LOps.do (LDo.box rfl rfl) rfl rfl rfl ?_
  rintro _ _ ⟨b2, hb2, rfl, rfl⟩
  have s2 := hle.none hb2
  refine LOps.gen (fun S' => S.le S' ∧ S'.box b2 = some (markL a)) ⟨hle.newBox hb2 _, box_new _ _ _⟩ ?_
  clear hle hb2 
  rintro S2 ⟨hle, k2⟩
  repeat (first | refine LOps.nil ?_ | refine andThen_normal ?_ | refine andThen_exit ?_ | refine andThen_ret ?_ | refine inBlock_normal ?_ | refine inBlock_ret ?_ | refine inBlock_here ?_ | refine inBlock_out rfl ?_ | refine LWp.seq ?_ | refine LWp.region ?_ | refine LWp.block ?_ | refine LWp.exit ?_ | refine LWp.ret ?_ | refine LWp.skip ?_ | refine LOps.valA ?_ | refine LOps.outA ?_ | refine LOps.whenA ?_ | refine LOps.pickA ?_ | refine LOps.storeA ?_)
  skip
  refine LOps.do (LDo.box rfl rfl) rfl rfl rfl ?_
  rintro _ _ ⟨b3, hb3, rfl, rfl⟩
  have n2_3 := fresh_ne hb3 k2
  have m3_2 := n2_3.symm
  have s3 := hle.none hb3
  refine LOps.gen (fun S' => S.le S' ∧ S'.box b2 = some (markL a) ∧ S'.box b3 = some (markL b)) ⟨hle.newBox hb3 _, (box_new_ne _ _ n2_3).trans k2, box_new _ _ _⟩ ?_
  clear hle hb3 k2
  rintro S3 ⟨hle, k2, k3⟩
  repeat (first | refine LOps.nil ?_ | refine andThen_normal ?_ | refine andThen_exit ?_ | refine andThen_ret ?_ | refine inBlock_normal ?_ | refine inBlock_ret ?_ | refine inBlock_here ?_ | refine inBlock_out rfl ?_ | refine LWp.seq ?_ | refine LWp.region ?_ | refine LWp.block ?_ | refine LWp.exit ?_ | refine LWp.ret ?_ | refine LWp.skip ?_ | refine LOps.valA ?_ | refine LOps.outA ?_ | refine LOps.whenA ?_ | refine LOps.pickA ?_ | refine LOps.storeA ?_)
  refine LWp.drawL [0, 1, 2, 3, 4, 5] (by rw [hP]; rfl) rfl ?_
  repeat (first | refine LRl.valC (fun _ => (LVal.call rfl rfl (by rw [hP]; exact Try.func33) rfl (by decide) (h1))) ?_ | refine LRl.valC (fun _ => (LVal.call rfl rfl (by rw [hP]; exact Try.func33) rfl (by decide) (h2))) ?_ | refine LRl.valC (fun _ => (LVal.call rfl rfl (by rw [hP]; exact Try.func54) rfl (by decide) (h3))) ?_ | refine LRl.whenC (fun _ => (LVal.call rfl rfl (by rw [hP]; exact Try.func33) rfl (by decide) (h1))) ?_ | refine LRl.whenC (fun _ => (LVal.call rfl rfl (by rw [hP]; exact Try.func33) rfl (by decide) (h2))) ?_ | refine LRl.whenC (fun _ => (LVal.call rfl rfl (by rw [hP]; exact Try.func54) rfl (by decide) (h3))) ?_ | refine LRl.nil ?_ | refine LRl.valA ?_ | refine LRl.outA ?_ | refine LRl.whenA ?_ | refine LRl.pickA ?_)
  repeat (first | refine LOps.nil ?_ | refine andThen_normal ?_ | refine andThen_exit ?_ | refine andThen_ret ?_ | refine inBlock_normal ?_ | refine inBlock_ret ?_ | refine inBlock_here ?_ | refine inBlock_out rfl ?_ | refine LWp.seq ?_ | refine LWp.region ?_ | refine LWp.block ?_ | refine LWp.exit ?_ | refine LWp.ret ?_ | refine LWp.skip ?_ | refine LOps.valA ?_ | refine LOps.outA ?_ | refine LOps.whenA ?_ | refine LOps.pickA ?_ | refine LOps.storeA ?_)
  exact ⟨_, LRes.one rfl, rfl, hle⟩

/-- A key's mark. -/
def ofM (key : ByteArray) (i : Int) : MarkV := ⟨(sliceN key.data.toList i : Nat), (sliceC key.data.toList i : Nat)⟩
theorem sliceC_le (l : List UInt8) (i : Int) : sliceC l i ≤ 9 := by unfold sliceC; split <;> omega
theorem sliceN_lt (l : List UInt8) (i : Int) : sliceN l i < 18446744073709551616 := by
  unfold sliceN; split
  · exact slNum_lt8 _
  · omega
theorem ofM_ok (key : ByteArray) (i : Int) : (ofM key i).ok := by
  have h1 := sliceC_le key.data.toList i
  have h2 := sliceN_lt key.data.toList i
  refine ⟨?_, ?_, ?_, ?_⟩ <;> (simp only [ofM]; omega)
theorem slice_F {G : Ctx} (hP : G.P = Try.prog) (key : ByteArray) (i : Int) (hk : key.size ≤ 140737488351232) : LFun G 52 [.one (sv key), .one (iv i)] (.tup [.one (u64 (ofM key i).s), .one (iv (ofM key i).c)]) :=
  .flatT [.string key, .int .i64 i] [.int .u64 (ofM key i).s, .int .i64 (ofM key i).c] rfl rfl fun w => by rw [hP]; exact calls_same (slice_any key i w hk)
theorem refSlice_F {G : Ctx} (hP : G.P = Try.prog) (key : ByteArray) (i : Int) (hk : key.size ≤ 140737488351232) : LFun G 28 [.one (sv key), .one (iv i)] (.tup [.one (u64 (ofM key i).s), .one (iv (ofM key i).c)]) :=
  .flatT [.string key, .int .i64 i] [.int .u64 (ofM key i).s, .int .i64 (ofM key i).c] rfl rfl fun w => by rw [hP]; exact calls_same (rslice_any key i w hk)

theorem of_M {G : Ctx} (hP : G.P = Try.prog) (key : ByteArray) (i : Int) (hk : key.size ≤ 140737488351232) : LFun G 29 [.one (sv key), .one (iv i)] (.agg (markL (ofM key i))) := LFun.of fun S => by
  have hD : TabOK G.P D := by rw [hP]; exact hD0
  have h1 := slice_F hP key i hk
  have hc := ofM_ok key i
  have e8 : TV.one (.v (.int .u8 (IntKind.u8.wrap (ofM key i).c))) = .one (uv (ofM key i).c) := by
    have := hc.c0
    have := hc.c1
    rw [IntKind.wrap_u8, Int.emod_eq_of_lt (by omega) (by omega)]
  refine LCalls.enter (fn := Try.f29) (by rw [hP]; exact Try.func29) rfl rfl ?_
  repeat (first | refine LOps.nil ?_ | refine andThen_normal ?_ | refine andThen_exit ?_ | refine andThen_ret ?_ | refine inBlock_normal ?_ | refine inBlock_ret ?_ | refine inBlock_here ?_ | refine inBlock_out rfl ?_ | refine LWp.seq ?_ | refine LWp.region ?_ | refine LWp.block ?_ | refine LWp.exit ?_ | refine LWp.ret ?_ | refine LWp.skip ?_ | refine LOps.valA ?_ | refine LOps.outA ?_ | refine LOps.whenA ?_ | refine LOps.pickA ?_ | refine LOps.storeA ?_)
  have hle := LS.le.refl S
  refine LOps.do (LDo.alloc hD rfl rfl rfl) rfl rfl rfl ?_
  rintro _ _ ⟨b4, hb4, rfl, rfl⟩
  have s4 := hle.none hb4
  refine LOps.gen (fun S' => S.le S' ∧ S'.box b4 = some (markL noMark)) ⟨hle.newBox hb4 _, box_new _ _ _⟩ ?_
  clear hle hb4 
  rintro S4 ⟨hle, k4⟩
  repeat (first | refine LOps.val (LVal.to (LVal.convInt hD rfl rfl rfl rfl rfl) e8) rfl rfl rfl ?_ | refine LOps.nil ?_ | refine andThen_normal ?_ | refine andThen_exit ?_ | refine andThen_ret ?_ | refine inBlock_normal ?_ | refine inBlock_ret ?_ | refine inBlock_here ?_ | refine inBlock_out rfl ?_ | refine LWp.seq ?_ | refine LWp.region ?_ | refine LWp.block ?_ | refine LWp.exit ?_ | refine LWp.ret ?_ | refine LWp.skip ?_ | refine LOps.val (LVal.call rfl rfl (by rw [hP]; exact Try.func52) rfl (by decide) (h1)) rfl rfl rfl ?_ | refine LOps.whenC (LVal.call rfl rfl (by rw [hP]; exact Try.func52) rfl (by decide) (h1)) ?_ | refine LOps.valA ?_ | refine LOps.outA ?_ | refine LOps.whenA ?_ | refine LOps.pickA ?_ | refine LOps.storeA ?_)
  exact ⟨_, LRes.cell rfl (.cell rfl (box_set _ _ _) (hP ▸ tok24) rfl), rfl, hle.setBox s4 _⟩
end Go.Proofs.Ytgkjhlmfgaaddaa.LF
end

section
/- A leaf's slots: whether one is right, of the code and of the document; one, slot. -/
namespace Go.Proofs.Ytgkjhlmfgaaddaa.LF
open Go.RowKit
set_option linter.unusedVariables false

theorem eqHandle : EqTy Try.prog D 26 := ⟨by kernel_rfl, by kernel_rfl⟩
theorem eqMark : EqTy Try.prog D 24 := ⟨by kernel_rfl, by kernel_rfl⟩
theorem eqSlot : EqTy Try.prog D 28 := ⟨by kernel_rfl, by kernel_rfl⟩
theorem eqRMark : EqTy Try.prog D 40 := ⟨by kernel_rfl, by kernel_rfl⟩
theorem eqRSlot : EqTy Try.prog D 42 := ⟨by kernel_rfl, by kernel_rfl⟩

theorem right_S {G : Ctx} (hP : G.P = Try.prog) (s : SlotV) (hm : s.m.ok) : LFun G 13 [.agg (slotL s)] (.one (bv (rightS s))) := LFun.of fun S => by
  have hD : TabOK G.P D := by rw [hP]; exact hD0
  have ea : EqTy G.P D 26 := by rw [hP]; exact eqHandle
  have h1 := right_M hP s.m hm
  refine LCalls.enter (fn := Try.f13) (by rw [hP]; exact Try.func13) rfl rfl ?_
  repeat (first | refine LOps.nil ?_ | refine andThen_normal ?_ | refine andThen_exit ?_ | refine andThen_ret ?_ | refine inBlock_normal ?_ | refine inBlock_ret ?_ | refine inBlock_here ?_ | refine inBlock_out rfl ?_ | refine LWp.seq ?_ | refine LWp.region ?_ | refine LWp.block ?_ | refine LWp.exit ?_ | refine LWp.ret ?_ | refine LWp.skip ?_ | refine LOps.valA ?_ | refine LOps.outA ?_ | refine LOps.whenA ?_ | refine LOps.pickA ?_ | refine LOps.storeA ?_)
  have hle := LS.le.refl S
  refine LOps.do (LDo.box rfl rfl) rfl rfl rfl ?_
  rintro _ _ ⟨b1, hb1, rfl, rfl⟩
  have s1 := hle.none hb1
  refine LOps.gen (fun S' => S.le S' ∧ S'.box b1 = some (slotL s)) ⟨hle.newBox hb1 _, box_new _ _ _⟩ ?_
  clear hle hb1 
  rintro S1 ⟨hle, k1⟩
  cases hr : rightM s.m with
  | false =>
    rw [hr] at h1
    repeat (first | refine LOps.valH (LVal.call rfl rfl (by rw [hP]; exact Try.func30) rfl (by decide) (h1)) ?_ | refine LWp.condT rfl ?_ | refine LOps.valH (LVal.to (LVal.binOp hD rfl rfl rfl rfl) (r' := .one (.v (.bool true))) (congrArg (fun b => TV.one (.v (.bool b))) (by first | exact decide_eq_true (by omega) | (rw [beq_iff_eq]; omega) | (rw [bne_iff_ne]; omega)))) ?_ | refine LOps.valH (LVal.to (LVal.binOp hD rfl rfl rfl rfl) (r' := .one (.v (.bool false))) (congrArg (fun b => TV.one (.v (.bool b))) (by first | exact decide_eq_false (by omega) | (rw [beq_eq_false_iff_ne]; omega) | (rw [bne_eq_false_iff_eq]; omega)))) ?_ | refine LOps.valW ?_ | refine LOps.nil ?_ | refine andThen_normal ?_ | refine andThen_exit ?_ | refine andThen_ret ?_ | refine inBlock_normal ?_ | refine inBlock_ret ?_ | refine inBlock_here ?_ | refine inBlock_out rfl ?_ | refine LWp.seq ?_ | refine LWp.region ?_ | refine LWp.block ?_ | refine LWp.exit ?_ | refine LWp.ret ?_ | refine LWp.skip ?_ | refine LOps.val (LVal.call rfl rfl (by rw [hP]; exact Try.func30) rfl (by decide) (h1)) rfl rfl rfl ?_ | refine LOps.whenC (LVal.call rfl rfl (by rw [hP]; exact Try.func30) rfl (by decide) (h1)) ?_ | refine LOps.valA ?_ | refine LOps.outA ?_ | refine LOps.whenA ?_ | refine LOps.pickA ?_ | refine LOps.storeA ?_)
    refine ⟨_, LRes.one rfl, ?_, hle⟩
    unfold rightS; rw [hr]; rfl
  | true =>
    rw [hr] at h1
    repeat (first | refine LWp.condF rfl ?_ | refine LOps.nil ?_ | refine andThen_normal ?_ | refine andThen_exit ?_ | refine andThen_ret ?_ | refine inBlock_normal ?_ | refine inBlock_ret ?_ | refine inBlock_here ?_ | refine inBlock_out rfl ?_ | refine LWp.seq ?_ | refine LWp.region ?_ | refine LWp.block ?_ | refine LWp.exit ?_ | refine LWp.ret ?_ | refine LWp.skip ?_ | refine LOps.val (LVal.call rfl rfl (by rw [hP]; exact Try.func30) rfl (by decide) (h1)) rfl rfl rfl ?_ | refine LOps.whenC (LVal.call rfl rfl (by rw [hP]; exact Try.func30) rfl (by decide) (h1)) ?_ | refine LOps.valA ?_ | refine LOps.outA ?_ | refine LOps.whenA ?_ | refine LOps.pickA ?_ | refine LOps.storeA ?_)
    refine LWp.cond rfl (fun h => ?_) (fun h => ?_)
    · have h : s.deep = true := h
      repeat (first | refine LOps.nil ?_ | refine andThen_normal ?_ | refine andThen_exit ?_ | refine andThen_ret ?_ | refine inBlock_normal ?_ | refine inBlock_ret ?_ | refine inBlock_here ?_ | refine inBlock_out rfl ?_ | refine LWp.seq ?_ | refine LWp.region ?_ | refine LWp.block ?_ | refine LWp.exit ?_ | refine LWp.ret ?_ | refine LWp.skip ?_ | refine LOps.valA ?_ | refine LOps.outA ?_ | refine LOps.whenA ?_ | refine LOps.pickA ?_ | refine LOps.storeA ?_)
      refine ⟨_, LRes.one rfl, ?_, hle⟩
      unfold rightS; rw [hr, h]; rfl
    · have h : s.deep = false := h
      repeat (first | refine LOps.nil ?_ | refine andThen_normal ?_ | refine andThen_exit ?_ | refine andThen_ret ?_ | refine inBlock_normal ?_ | refine inBlock_ret ?_ | refine inBlock_here ?_ | refine inBlock_out rfl ?_ | refine LWp.seq ?_ | refine LWp.region ?_ | refine LWp.block ?_ | refine LWp.exit ?_ | refine LWp.ret ?_ | refine LWp.skip ?_ | refine LOps.valA ?_ | refine LOps.outA ?_ | refine LOps.whenA ?_ | refine LOps.pickA ?_ | refine LOps.storeA ?_)
      refine ⟨_, LRes.one rfl, ?_, hle⟩
      unfold rightS; rw [hr, h]
      show TV.one (bv (((s.ls == 0) && ((s.lg == 0) && true)) && ((s.m.c == 9) == !decide (s.rest = noBytes)))) = _
      rw [Bool.and_true]; rfl

theorem refRight_S {G : Ctx} (hP : G.P = Try.prog) (s : SlotV) (hm : s.m.ok) : LFun G 35 [.agg (slotL s)] (.one (bv (rightS s))) := LFun.of fun S => by
  have hD : TabOK G.P D := by rw [hP]; exact hD0
  have ea : EqTy G.P D 26 := by rw [hP]; exact eqHandle
  have h1 := refRight_M hP s.m hm
  refine LCalls.enter (fn := Try.f35) (by rw [hP]; exact Try.func35) rfl rfl ?_
  repeat (first | refine LOps.nil ?_ | refine andThen_normal ?_ | refine andThen_exit ?_ | refine andThen_ret ?_ | refine inBlock_normal ?_ | refine inBlock_ret ?_ | refine inBlock_here ?_ | refine inBlock_out rfl ?_ | refine LWp.seq ?_ | refine LWp.region ?_ | refine LWp.block ?_ | refine LWp.exit ?_ | refine LWp.ret ?_ | refine LWp.skip ?_ | refine LOps.valA ?_ | refine LOps.outA ?_ | refine LOps.whenA ?_ | refine LOps.pickA ?_ | refine LOps.storeA ?_)
  have hle := LS.le.refl S
  refine LOps.do (LDo.box rfl rfl) rfl rfl rfl ?_
  rintro _ _ ⟨b1, hb1, rfl, rfl⟩
  have s1 := hle.none hb1
  refine LOps.gen (fun S' => S.le S' ∧ S'.box b1 = some (slotL s)) ⟨hle.newBox hb1 _, box_new _ _ _⟩ ?_
  clear hle hb1 
  rintro S1 ⟨hle, k1⟩
  cases hr : rightM s.m with
  | false =>
    rw [hr] at h1
    repeat (first | refine LOps.valH (LVal.call rfl rfl (by rw [hP]; exact Try.func31) rfl (by decide) (h1)) ?_ | refine LWp.condT rfl ?_ | refine LOps.valH (LVal.to (LVal.binOp hD rfl rfl rfl rfl) (r' := .one (.v (.bool true))) (congrArg (fun b => TV.one (.v (.bool b))) (by first | exact decide_eq_true (by omega) | (rw [beq_iff_eq]; omega) | (rw [bne_iff_ne]; omega)))) ?_ | refine LOps.valH (LVal.to (LVal.binOp hD rfl rfl rfl rfl) (r' := .one (.v (.bool false))) (congrArg (fun b => TV.one (.v (.bool b))) (by first | exact decide_eq_false (by omega) | (rw [beq_eq_false_iff_ne]; omega) | (rw [bne_eq_false_iff_eq]; omega)))) ?_ | refine LOps.valW ?_ | refine LOps.nil ?_ | refine andThen_normal ?_ | refine andThen_exit ?_ | refine andThen_ret ?_ | refine inBlock_normal ?_ | refine inBlock_ret ?_ | refine inBlock_here ?_ | refine inBlock_out rfl ?_ | refine LWp.seq ?_ | refine LWp.region ?_ | refine LWp.block ?_ | refine LWp.exit ?_ | refine LWp.ret ?_ | refine LWp.skip ?_ | refine LOps.val (LVal.call rfl rfl (by rw [hP]; exact Try.func31) rfl (by decide) (h1)) rfl rfl rfl ?_ | refine LOps.whenC (LVal.call rfl rfl (by rw [hP]; exact Try.func31) rfl (by decide) (h1)) ?_ | refine LOps.valA ?_ | refine LOps.outA ?_ | refine LOps.whenA ?_ | refine LOps.pickA ?_ | refine LOps.storeA ?_)
    refine ⟨_, LRes.one rfl, ?_, hle⟩
    unfold rightS; rw [hr]; rfl
  | true =>
    rw [hr] at h1
    repeat (first | refine LWp.condF rfl ?_ | refine LOps.nil ?_ | refine andThen_normal ?_ | refine andThen_exit ?_ | refine andThen_ret ?_ | refine inBlock_normal ?_ | refine inBlock_ret ?_ | refine inBlock_here ?_ | refine inBlock_out rfl ?_ | refine LWp.seq ?_ | refine LWp.region ?_ | refine LWp.block ?_ | refine LWp.exit ?_ | refine LWp.ret ?_ | refine LWp.skip ?_ | refine LOps.val (LVal.call rfl rfl (by rw [hP]; exact Try.func31) rfl (by decide) (h1)) rfl rfl rfl ?_ | refine LOps.whenC (LVal.call rfl rfl (by rw [hP]; exact Try.func31) rfl (by decide) (h1)) ?_ | refine LOps.valA ?_ | refine LOps.outA ?_ | refine LOps.whenA ?_ | refine LOps.pickA ?_ | refine LOps.storeA ?_)
    refine LWp.cond rfl (fun h => ?_) (fun h => ?_)
    · have h : s.deep = true := h
      repeat (first | refine LOps.nil ?_ | refine andThen_normal ?_ | refine andThen_exit ?_ | refine andThen_ret ?_ | refine inBlock_normal ?_ | refine inBlock_ret ?_ | refine inBlock_here ?_ | refine inBlock_out rfl ?_ | refine LWp.seq ?_ | refine LWp.region ?_ | refine LWp.block ?_ | refine LWp.exit ?_ | refine LWp.ret ?_ | refine LWp.skip ?_ | refine LOps.valA ?_ | refine LOps.outA ?_ | refine LOps.whenA ?_ | refine LOps.pickA ?_ | refine LOps.storeA ?_)
      refine ⟨_, LRes.one rfl, ?_, hle⟩
      unfold rightS; rw [hr, h]; rfl
    · have h : s.deep = false := h
      repeat (first | refine LOps.nil ?_ | refine andThen_normal ?_ | refine andThen_exit ?_ | refine andThen_ret ?_ | refine inBlock_normal ?_ | refine inBlock_ret ?_ | refine inBlock_here ?_ | refine inBlock_out rfl ?_ | refine LWp.seq ?_ | refine LWp.region ?_ | refine LWp.block ?_ | refine LWp.exit ?_ | refine LWp.ret ?_ | refine LWp.skip ?_ | refine LOps.valA ?_ | refine LOps.outA ?_ | refine LOps.whenA ?_ | refine LOps.pickA ?_ | refine LOps.storeA ?_)
      refine LWp.cond rfl (fun h2 => ?_) (fun h2 => ?_)
      · have h2 : (!((s.ls == 0) && ((s.lg == 0) && true))) = true := h2
        rw [Bool.and_true, Bool.not_eq_true'] at h2
        repeat (first | refine LOps.nil ?_ | refine andThen_normal ?_ | refine andThen_exit ?_ | refine andThen_ret ?_ | refine inBlock_normal ?_ | refine inBlock_ret ?_ | refine inBlock_here ?_ | refine inBlock_out rfl ?_ | refine LWp.seq ?_ | refine LWp.region ?_ | refine LWp.block ?_ | refine LWp.exit ?_ | refine LWp.ret ?_ | refine LWp.skip ?_ | refine LOps.valA ?_ | refine LOps.outA ?_ | refine LOps.whenA ?_ | refine LOps.pickA ?_ | refine LOps.storeA ?_)
        refine ⟨_, LRes.one rfl, ?_, hle⟩
        have h2 : (decide (s.ls = 0) && decide (s.lg = 0)) = false := h2
        unfold rightS; rw [hr, h, h2]; rfl
      · have h2 : (!((s.ls == 0) && ((s.lg == 0) && true))) = false := h2
        rw [Bool.and_true, Bool.not_eq_false'] at h2
        have h2 : (decide (s.ls = 0) && decide (s.lg = 0)) = true := h2
        repeat (first | refine LOps.nil ?_ | refine andThen_normal ?_ | refine andThen_exit ?_ | refine andThen_ret ?_ | refine inBlock_normal ?_ | refine inBlock_ret ?_ | refine inBlock_here ?_ | refine inBlock_out rfl ?_ | refine LWp.seq ?_ | refine LWp.region ?_ | refine LWp.block ?_ | refine LWp.exit ?_ | refine LWp.ret ?_ | refine LWp.skip ?_ | refine LOps.valA ?_ | refine LOps.outA ?_ | refine LOps.whenA ?_ | refine LOps.pickA ?_ | refine LOps.storeA ?_)
        refine LWp.cond rfl (fun h3 => ?_) (fun h3 => ?_)
        · have h3 : decide (s.m.c = 9) = true := h3
          repeat (first | refine LOps.nil ?_ | refine andThen_normal ?_ | refine andThen_exit ?_ | refine andThen_ret ?_ | refine inBlock_normal ?_ | refine inBlock_ret ?_ | refine inBlock_here ?_ | refine inBlock_out rfl ?_ | refine LWp.seq ?_ | refine LWp.region ?_ | refine LWp.block ?_ | refine LWp.exit ?_ | refine LWp.ret ?_ | refine LWp.skip ?_ | refine LOps.valA ?_ | refine LOps.outA ?_ | refine LOps.whenA ?_ | refine LOps.pickA ?_ | refine LOps.storeA ?_)
          refine ⟨_, LRes.one rfl, ?_, hle⟩
          unfold rightS; rw [hr, h, h2, h3]
          show TV.one (bv (!decide (s.rest = noBytes))) = .one (bv (true == !decide (s.rest = noBytes)))
          rw [Bool.true_beq]
        · have h3 : decide (s.m.c = 9) = false := h3
          repeat (first | refine LOps.nil ?_ | refine andThen_normal ?_ | refine andThen_exit ?_ | refine andThen_ret ?_ | refine inBlock_normal ?_ | refine inBlock_ret ?_ | refine inBlock_here ?_ | refine inBlock_out rfl ?_ | refine LWp.seq ?_ | refine LWp.region ?_ | refine LWp.block ?_ | refine LWp.exit ?_ | refine LWp.ret ?_ | refine LWp.skip ?_ | refine LOps.valA ?_ | refine LOps.outA ?_ | refine LOps.whenA ?_ | refine LOps.pickA ?_ | refine LOps.storeA ?_)
          refine ⟨_, LRes.one rfl, ?_, hle⟩
          unfold rightS; rw [hr, h, h2, h3]
          show TV.one (bv (decide (s.rest = noBytes))) = .one (bv (false == !decide (s.rest = noBytes)))
          rw [Bool.false_beq, Bool.not_not]

theorem one_S {G : Ctx} (hP : G.P = Try.prog) (s : SlotV) : LFun G 27 [.agg (slotL s)] (.agg (slotL s)) := LFun.of fun S => by
  have hD : TabOK G.P D := by rw [hP]; exact hD0
  have h1 := mark_F hP s.m
  refine LCalls.enter (fn := Try.f27) (by rw [hP]; exact Try.func27) rfl rfl ?_
  repeat (first | refine LOps.nil ?_ | refine andThen_normal ?_ | refine andThen_exit ?_ | refine andThen_ret ?_ | refine inBlock_normal ?_ | refine inBlock_ret ?_ | refine inBlock_here ?_ | refine inBlock_out rfl ?_ | refine LWp.seq ?_ | refine LWp.region ?_ | refine LWp.block ?_ | refine LWp.exit ?_ | refine LWp.ret ?_ | refine LWp.skip ?_ | refine LOps.valA ?_ | refine LOps.outA ?_ | refine LOps.whenA ?_ | refine LOps.pickA ?_ | refine LOps.storeA ?_)
  have hle := LS.le.refl S
  refine LOps.do (LDo.box rfl rfl) rfl rfl rfl ?_
  rintro _ _ ⟨b1, hb1, rfl, rfl⟩
  have s1 := hle.none hb1
  refine LOps.gen (fun S' => S.le S' ∧ S'.box b1 = some (slotL s)) ⟨hle.newBox hb1 _, box_new _ _ _⟩ ?_
  clear hle hb1 
  rintro S1 ⟨hle, k1⟩
  repeat (first | refine LOps.nil ?_ | refine andThen_normal ?_ | refine andThen_exit ?_ | refine andThen_ret ?_ | refine inBlock_normal ?_ | refine inBlock_ret ?_ | refine inBlock_here ?_ | refine inBlock_out rfl ?_ | refine LWp.seq ?_ | refine LWp.region ?_ | refine LWp.block ?_ | refine LWp.exit ?_ | refine LWp.ret ?_ | refine LWp.skip ?_ | refine LOps.valA ?_ | refine LOps.outA ?_ | refine LOps.whenA ?_ | refine LOps.pickA ?_ | refine LOps.storeA ?_)
  skip
  refine LOps.do (LDo.alloc hD rfl rfl rfl) rfl rfl rfl ?_
  rintro _ _ ⟨b2, hb2, rfl, rfl⟩
  have n1_2 := fresh_ne hb2 k1
  have m2_1 := n1_2.symm
  have s2 := hle.none hb2
  refine LOps.gen (fun S' => S.le S' ∧ S'.box b1 = some (slotL s) ∧ S'.box b2 = some (slotL noSlot)) ⟨hle.newBox hb2 _, (box_new_ne _ _ n1_2).trans k1, box_new _ _ _⟩ ?_
  clear hle hb2 k1
  rintro S2 ⟨hle, k1, k2⟩
  repeat (first | refine LOps.nil ?_ | refine andThen_normal ?_ | refine andThen_exit ?_ | refine andThen_ret ?_ | refine inBlock_normal ?_ | refine inBlock_ret ?_ | refine inBlock_here ?_ | refine inBlock_out rfl ?_ | refine LWp.seq ?_ | refine LWp.region ?_ | refine LWp.block ?_ | refine LWp.exit ?_ | refine LWp.ret ?_ | refine LWp.skip ?_ | refine LOps.valA ?_ | refine LOps.outA ?_ | refine LOps.whenA ?_ | refine LOps.pickA ?_ | refine LOps.storeA ?_)
  refine LWp.drawL [0, 1, 2, 3, 4, 5, 6, 7, 8, 9, 10, 11, 12] (by rw [hP]; rfl) rfl ?_
  repeat (first | refine LRl.valC (fun _ => (LVal.call rfl rfl (by rw [hP]; exact Try.func22) rfl (by decide) (h1))) ?_ | refine LRl.whenC (fun _ => (LVal.call rfl rfl (by rw [hP]; exact Try.func22) rfl (by decide) (h1))) ?_ | refine LRl.nil ?_ | refine LRl.valA ?_ | refine LRl.outA ?_ | refine LRl.whenA ?_ | refine LRl.pickA ?_)
  refine LRl.act0 (LDo.store hD rfl rfl k2 rfl rfl rfl rfl) rfl rfl rfl (fun _ _ _ => .inr rfl) ?_
  rintro _ _ ⟨rfl, rfl⟩
  repeat (first | refine LRl.nil ?_ | refine LRl.valA ?_ | refine LRl.outA ?_ | refine LRl.whenA ?_ | refine LRl.pickA ?_)
  repeat (first | refine LOps.nil ?_ | refine andThen_normal ?_ | refine andThen_exit ?_ | refine andThen_ret ?_ | refine inBlock_normal ?_ | refine inBlock_ret ?_ | refine inBlock_here ?_ | refine inBlock_out rfl ?_ | refine LWp.seq ?_ | refine LWp.region ?_ | refine LWp.block ?_ | refine LWp.exit ?_ | refine LWp.ret ?_ | refine LWp.skip ?_ | refine LOps.valA ?_ | refine LOps.outA ?_ | refine LOps.whenA ?_ | refine LOps.pickA ?_ | refine LOps.storeA ?_)
  exact ⟨_, LRes.cell rfl (.cell rfl (box_set _ _ _) (hP ▸ tok42) rfl), rfl, hle.setBox s2 _⟩

/-- A key's slot. -/
def keySlot (key value : ByteArray) : SlotV := ⟨ofM key 0, noBytes, value, false, 0, 0⟩
theorem slot_F {G : Ctx} (hP : G.P = Try.prog) (key value : ByteArray) (hk : key.size ≤ 140737488351232) : LFun G 39 [.one (sv key), .one (sv value)] (.agg (slotL (keySlot key value))) := LFun.of fun S => by
  have hD : TabOK G.P D := by rw [hP]; exact hD0
  have h1 := of_M hP key 0 hk
  refine LCalls.enter (fn := Try.f39) (by rw [hP]; exact Try.func39) rfl rfl ?_
  repeat (first | refine LOps.nil ?_ | refine andThen_normal ?_ | refine andThen_exit ?_ | refine andThen_ret ?_ | refine inBlock_normal ?_ | refine inBlock_ret ?_ | refine inBlock_here ?_ | refine inBlock_out rfl ?_ | refine LWp.seq ?_ | refine LWp.region ?_ | refine LWp.block ?_ | refine LWp.exit ?_ | refine LWp.ret ?_ | refine LWp.skip ?_ | refine LOps.valA ?_ | refine LOps.outA ?_ | refine LOps.whenA ?_ | refine LOps.pickA ?_ | refine LOps.storeA ?_)
  have hle := LS.le.refl S
  refine LOps.do (LDo.alloc hD rfl rfl rfl) rfl rfl rfl ?_
  rintro _ _ ⟨b4, hb4, rfl, rfl⟩
  have s4 := hle.none hb4
  refine LOps.gen (fun S' => S.le S' ∧ S'.box b4 = some (slotL noSlot)) ⟨hle.newBox hb4 _, box_new _ _ _⟩ ?_
  clear hle hb4 
  rintro S4 ⟨hle, k4⟩
  repeat (first | refine LOps.nil ?_ | refine andThen_normal ?_ | refine andThen_exit ?_ | refine andThen_ret ?_ | refine inBlock_normal ?_ | refine inBlock_ret ?_ | refine inBlock_here ?_ | refine inBlock_out rfl ?_ | refine LWp.seq ?_ | refine LWp.region ?_ | refine LWp.block ?_ | refine LWp.exit ?_ | refine LWp.ret ?_ | refine LWp.skip ?_ | refine LOps.val (LVal.call rfl rfl (by rw [hP]; exact Try.func29) rfl (by decide) (h1)) rfl rfl rfl ?_ | refine LOps.whenC (LVal.call rfl rfl (by rw [hP]; exact Try.func29) rfl (by decide) (h1)) ?_ | refine LOps.valA ?_ | refine LOps.outA ?_ | refine LOps.whenA ?_ | refine LOps.pickA ?_ | refine LOps.storeA ?_)
  exact ⟨_, LRes.cell rfl (.cell rfl (box_set _ _ _) (hP ▸ tok28) rfl), rfl, hle.setBox s4 _⟩
end Go.Proofs.Ytgkjhlmfgaaddaa.LF
end

section
/- Leaves: Covers, Len, Full, of the code and of the document. -/
namespace Go.Proofs.Ytgkjhlmfgaaddaa.LF
open Go.RowKit
set_option linter.unusedVariables false

theorem rdBoundedB (l : LeafV) {b : Bool} (h : l.bounded = b) {i : TI} (ha : i.isAgg = false := by rfl) : readT i ((leafL l).drop 108) = some (.one (bv b)) := by
  rw [← h]; exact rdBounded l ha

theorem covers_F {G : Ctx} (hP : G.P = Try.prog) (l : LeafV) (m : MarkV) : LFun G 14 [.agg (leafL l), .agg (markL m)] (.one (bv (coversL l m))) := LFun.of fun S => by
  have hD : TabOK G.P D := by rw [hP]; exact hD0
  have h1 := less_M hP m l.high
  refine LCalls.enter (fn := Try.f14) (by rw [hP]; exact Try.func14) rfl rfl ?_
  repeat (first | refine LOps.nil ?_ | refine andThen_normal ?_ | refine andThen_exit ?_ | refine andThen_ret ?_ | refine inBlock_normal ?_ | refine inBlock_ret ?_ | refine inBlock_here ?_ | refine inBlock_out rfl ?_ | refine LWp.seq ?_ | refine LWp.region ?_ | refine LWp.block ?_ | refine LWp.exit ?_ | refine LWp.ret ?_ | refine LWp.skip ?_ | refine LOps.valA ?_ | refine LOps.outA ?_ | refine LOps.whenA ?_ | refine LOps.pickA ?_ | refine LOps.storeA ?_)
  have hle := LS.le.refl S
  refine LOps.do (LDo.box rfl rfl) rfl rfl rfl ?_
  rintro _ _ ⟨b2, hb2, rfl, rfl⟩
  have s2 := hle.none hb2
  refine LOps.gen (fun S' => S.le S' ∧ S'.box b2 = some (leafL l)) ⟨hle.newBox hb2 _, box_new _ _ _⟩ ?_
  clear hle hb2 
  rintro S2 ⟨hle, k2⟩
  repeat (first | refine LOps.nil ?_ | refine andThen_normal ?_ | refine andThen_exit ?_ | refine andThen_ret ?_ | refine inBlock_normal ?_ | refine inBlock_ret ?_ | refine inBlock_here ?_ | refine inBlock_out rfl ?_ | refine LWp.seq ?_ | refine LWp.region ?_ | refine LWp.block ?_ | refine LWp.exit ?_ | refine LWp.ret ?_ | refine LWp.skip ?_ | refine LOps.valA ?_ | refine LOps.outA ?_ | refine LOps.whenA ?_ | refine LOps.pickA ?_ | refine LOps.storeA ?_)
  skip
  refine LOps.do (LDo.box rfl rfl) rfl rfl rfl ?_
  rintro _ _ ⟨b3, hb3, rfl, rfl⟩
  have n2_3 := fresh_ne hb3 k2
  have m3_2 := n2_3.symm
  have s3 := hle.none hb3
  refine LOps.gen (fun S' => S.le S' ∧ S'.box b2 = some (leafL l) ∧ S'.box b3 = some (markL m)) ⟨hle.newBox hb3 _, (box_new_ne _ _ n2_3).trans k2, box_new _ _ _⟩ ?_
  clear hle hb3 k2
  rintro S3 ⟨hle, k2, k3⟩
  cases hb : l.bounded with
  | false =>
    repeat (first | refine LOps.valH (LVal.load hD rfl rfl k2 rfl (rdBoundedB l hb)) ?_ | refine LOps.nil ?_ | refine andThen_normal ?_ | refine andThen_exit ?_ | refine andThen_ret ?_ | refine inBlock_normal ?_ | refine inBlock_ret ?_ | refine inBlock_here ?_ | refine inBlock_out rfl ?_ | refine LWp.seq ?_ | refine LWp.region ?_ | refine LWp.block ?_ | refine LWp.exit ?_ | refine LWp.ret ?_ | refine LWp.skip ?_ | refine LOps.valA ?_ | refine LOps.outA ?_ | refine LOps.whenA ?_ | refine LOps.pickA ?_ | refine LOps.storeA ?_)
    refine ⟨_, LRes.one rfl, ?_, hle⟩
    unfold coversL; rw [hb]; rfl
  | true =>
    repeat (first | refine LOps.valH (LVal.call rfl rfl (by rw [hP]; exact Try.func18) rfl (by decide) (h1)) ?_ | refine LOps.valH (LVal.load hD rfl rfl k2 rfl (rdBoundedB l hb)) ?_ | refine LOps.valH (LVal.load hD rfl rfl k2 rfl (rdHigh l)) ?_ | refine LOps.valH (LVal.to (LVal.binOp hD rfl rfl rfl rfl) (r' := .one (.v (.bool true))) (congrArg (fun b => TV.one (.v (.bool b))) (by first | exact decide_eq_true (by omega) | (rw [beq_iff_eq]; omega) | (rw [bne_iff_ne]; omega)))) ?_ | refine LOps.valH (LVal.to (LVal.binOp hD rfl rfl rfl rfl) (r' := .one (.v (.bool false))) (congrArg (fun b => TV.one (.v (.bool b))) (by first | exact decide_eq_false (by omega) | (rw [beq_eq_false_iff_ne]; omega) | (rw [bne_eq_false_iff_eq]; omega)))) ?_ | refine LOps.valW ?_ | refine LOps.nil ?_ | refine andThen_normal ?_ | refine andThen_exit ?_ | refine andThen_ret ?_ | refine inBlock_normal ?_ | refine inBlock_ret ?_ | refine inBlock_here ?_ | refine inBlock_out rfl ?_ | refine LWp.seq ?_ | refine LWp.region ?_ | refine LWp.block ?_ | refine LWp.exit ?_ | refine LWp.ret ?_ | refine LWp.skip ?_ | refine LOps.val (LVal.call rfl rfl (by rw [hP]; exact Try.func18) rfl (by decide) (h1)) rfl rfl rfl ?_ | refine LOps.whenC (LVal.call rfl rfl (by rw [hP]; exact Try.func18) rfl (by decide) (h1)) ?_ | refine LOps.valA ?_ | refine LOps.outA ?_ | refine LOps.whenA ?_ | refine LOps.pickA ?_ | refine LOps.storeA ?_)
    refine ⟨_, LRes.one rfl, ?_, hle⟩
    unfold coversL; rw [hb]; rfl

theorem refCovers_F {G : Ctx} (hP : G.P = Try.prog) (l : LeafV) (m : MarkV) (hl : l.high.ok) (hm : m.ok) : LFun G 21 [.agg (leafL l), .agg (markL m)] (.one (bv (coversL l m))) := LFun.of fun S => by
  have hD : TabOK G.P D := by rw [hP]; exact hD0
  have h1 := refLess_M hP m l.high hm hl
  refine LCalls.enter (fn := Try.f21) (by rw [hP]; exact Try.func21) rfl rfl ?_
  repeat (first | refine LOps.nil ?_ | refine andThen_normal ?_ | refine andThen_exit ?_ | refine andThen_ret ?_ | refine inBlock_normal ?_ | refine inBlock_ret ?_ | refine inBlock_here ?_ | refine inBlock_out rfl ?_ | refine LWp.seq ?_ | refine LWp.region ?_ | refine LWp.block ?_ | refine LWp.exit ?_ | refine LWp.ret ?_ | refine LWp.skip ?_ | refine LOps.valA ?_ | refine LOps.outA ?_ | refine LOps.whenA ?_ | refine LOps.pickA ?_ | refine LOps.storeA ?_)
  have hle := LS.le.refl S
  refine LOps.do (LDo.box rfl rfl) rfl rfl rfl ?_
  rintro _ _ ⟨b2, hb2, rfl, rfl⟩
  have s2 := hle.none hb2
  refine LOps.gen (fun S' => S.le S' ∧ S'.box b2 = some (leafL l)) ⟨hle.newBox hb2 _, box_new _ _ _⟩ ?_
  clear hle hb2 
  rintro S2 ⟨hle, k2⟩
  repeat (first | refine LOps.nil ?_ | refine andThen_normal ?_ | refine andThen_exit ?_ | refine andThen_ret ?_ | refine inBlock_normal ?_ | refine inBlock_ret ?_ | refine inBlock_here ?_ | refine inBlock_out rfl ?_ | refine LWp.seq ?_ | refine LWp.region ?_ | refine LWp.block ?_ | refine LWp.exit ?_ | refine LWp.ret ?_ | refine LWp.skip ?_ | refine LOps.valA ?_ | refine LOps.outA ?_ | refine LOps.whenA ?_ | refine LOps.pickA ?_ | refine LOps.storeA ?_)
  skip
  refine LOps.do (LDo.box rfl rfl) rfl rfl rfl ?_
  rintro _ _ ⟨b3, hb3, rfl, rfl⟩
  have n2_3 := fresh_ne hb3 k2
  have m3_2 := n2_3.symm
  have s3 := hle.none hb3
  refine LOps.gen (fun S' => S.le S' ∧ S'.box b2 = some (leafL l) ∧ S'.box b3 = some (markL m)) ⟨hle.newBox hb3 _, (box_new_ne _ _ n2_3).trans k2, box_new _ _ _⟩ ?_
  clear hle hb3 k2
  rintro S3 ⟨hle, k2, k3⟩
  cases hb : l.bounded with
  | false =>
    repeat (first | refine LOps.valH (LVal.load hD rfl rfl k2 rfl (rdBoundedB l hb)) ?_ | refine LOps.nil ?_ | refine andThen_normal ?_ | refine andThen_exit ?_ | refine andThen_ret ?_ | refine inBlock_normal ?_ | refine inBlock_ret ?_ | refine inBlock_here ?_ | refine inBlock_out rfl ?_ | refine LWp.seq ?_ | refine LWp.region ?_ | refine LWp.block ?_ | refine LWp.exit ?_ | refine LWp.ret ?_ | refine LWp.skip ?_ | refine LOps.valA ?_ | refine LOps.outA ?_ | refine LOps.whenA ?_ | refine LOps.pickA ?_ | refine LOps.storeA ?_)
    refine ⟨_, LRes.one rfl, ?_, hle⟩
    unfold coversL; rw [hb]; rfl
  | true =>
    repeat (first | refine LOps.valH (LVal.call rfl rfl (by rw [hP]; exact Try.func34) rfl (by decide) (h1)) ?_ | refine LOps.valH (LVal.load hD rfl rfl k2 rfl (rdBoundedB l hb)) ?_ | refine LOps.valH (LVal.load hD rfl rfl k2 rfl (rdHigh l)) ?_ | refine LOps.valH (LVal.to (LVal.binOp hD rfl rfl rfl rfl) (r' := .one (.v (.bool true))) (congrArg (fun b => TV.one (.v (.bool b))) (by first | exact decide_eq_true (by omega) | (rw [beq_iff_eq]; omega) | (rw [bne_iff_ne]; omega)))) ?_ | refine LOps.valH (LVal.to (LVal.binOp hD rfl rfl rfl rfl) (r' := .one (.v (.bool false))) (congrArg (fun b => TV.one (.v (.bool b))) (by first | exact decide_eq_false (by omega) | (rw [beq_eq_false_iff_ne]; omega) | (rw [bne_eq_false_iff_eq]; omega)))) ?_ | refine LOps.valW ?_ | refine LOps.nil ?_ | refine andThen_normal ?_ | refine andThen_exit ?_ | refine andThen_ret ?_ | refine inBlock_normal ?_ | refine inBlock_ret ?_ | refine inBlock_here ?_ | refine inBlock_out rfl ?_ | refine LWp.seq ?_ | refine LWp.region ?_ | refine LWp.block ?_ | refine LWp.exit ?_ | refine LWp.ret ?_ | refine LWp.skip ?_ | refine LOps.val (LVal.call rfl rfl (by rw [hP]; exact Try.func34) rfl (by decide) (h1)) rfl rfl rfl ?_ | refine LOps.whenC (LVal.call rfl rfl (by rw [hP]; exact Try.func34) rfl (by decide) (h1)) ?_ | refine LOps.valA ?_ | refine LOps.outA ?_ | refine LOps.whenA ?_ | refine LOps.pickA ?_ | refine LOps.storeA ?_)
    refine ⟨_, LRes.one rfl, ?_, hle⟩
    unfold coversL; rw [hb]; rfl

theorem len_L {G : Ctx} (hP : G.P = Try.prog) (l : LeafV) (hp : l.p < 18446744073709551616) : LFun G 15 [.agg (leafL l)] (.one (iv ((l.p % 16 : Nat) : Int))) := LFun.of fun S => by
  have hD : TabOK G.P D := by rw [hP]; exact hD0
  have h1 := len_F hP l.p hp
  refine LCalls.enter (fn := Try.f15) (by rw [hP]; exact Try.func15) rfl rfl ?_
  repeat (first | refine LOps.nil ?_ | refine andThen_normal ?_ | refine andThen_exit ?_ | refine andThen_ret ?_ | refine inBlock_normal ?_ | refine inBlock_ret ?_ | refine inBlock_here ?_ | refine inBlock_out rfl ?_ | refine LWp.seq ?_ | refine LWp.region ?_ | refine LWp.block ?_ | refine LWp.exit ?_ | refine LWp.ret ?_ | refine LWp.skip ?_ | refine LOps.valA ?_ | refine LOps.outA ?_ | refine LOps.whenA ?_ | refine LOps.pickA ?_ | refine LOps.storeA ?_)
  have hle := LS.le.refl S
  refine LOps.do (LDo.box rfl rfl) rfl rfl rfl ?_
  rintro _ _ ⟨b1, hb1, rfl, rfl⟩
  have s1 := hle.none hb1
  refine LOps.gen (fun S' => S.le S' ∧ S'.box b1 = some (leafL l)) ⟨hle.newBox hb1 _, box_new _ _ _⟩ ?_
  clear hle hb1 
  rintro S1 ⟨hle, k1⟩
  repeat (first | refine LOps.valH (LVal.load hD rfl rfl k1 rfl (rdPerm l)) ?_ | refine LOps.nil ?_ | refine andThen_normal ?_ | refine andThen_exit ?_ | refine andThen_ret ?_ | refine inBlock_normal ?_ | refine inBlock_ret ?_ | refine inBlock_here ?_ | refine inBlock_out rfl ?_ | refine LWp.seq ?_ | refine LWp.region ?_ | refine LWp.block ?_ | refine LWp.exit ?_ | refine LWp.ret ?_ | refine LWp.skip ?_ | refine LOps.val (LVal.call rfl rfl (by rw [hP]; exact Try.func48) rfl (by decide) (h1)) rfl rfl rfl ?_ | refine LOps.whenC (LVal.call rfl rfl (by rw [hP]; exact Try.func48) rfl (by decide) (h1)) ?_ | refine LOps.valA ?_ | refine LOps.outA ?_ | refine LOps.whenA ?_ | refine LOps.pickA ?_ | refine LOps.storeA ?_)
  exact ⟨_, LRes.one rfl, rfl, hle⟩

theorem full_L {G : Ctx} (hP : G.P = Try.prog) (l : LeafV) (hp : l.p < 18446744073709551616) : LFun G 23 [.agg (leafL l)] (.one (bv (decide (((l.p % 16 : Nat) : Int) > 6)))) := LFun.of fun S => by
  have hD : TabOK G.P D := by rw [hP]; exact hD0
  have h1 := len_L hP l hp
  refine LCalls.enter (fn := Try.f23) (by rw [hP]; exact Try.func23) rfl rfl ?_
  repeat (first | refine LOps.nil ?_ | refine andThen_normal ?_ | refine andThen_exit ?_ | refine andThen_ret ?_ | refine inBlock_normal ?_ | refine inBlock_ret ?_ | refine inBlock_here ?_ | refine inBlock_out rfl ?_ | refine LWp.seq ?_ | refine LWp.region ?_ | refine LWp.block ?_ | refine LWp.exit ?_ | refine LWp.ret ?_ | refine LWp.skip ?_ | refine LOps.valA ?_ | refine LOps.outA ?_ | refine LOps.whenA ?_ | refine LOps.pickA ?_ | refine LOps.storeA ?_)
  have hle := LS.le.refl S
  refine LOps.do (LDo.box rfl rfl) rfl rfl rfl ?_
  rintro _ _ ⟨b1, hb1, rfl, rfl⟩
  have s1 := hle.none hb1
  refine LOps.gen (fun S' => S.le S' ∧ S'.box b1 = some (leafL l)) ⟨hle.newBox hb1 _, box_new _ _ _⟩ ?_
  clear hle hb1 
  rintro S1 ⟨hle, k1⟩
  repeat (first | refine LOps.valH (LVal.load hD rfl rfl k1 rfl (rdLeaf l)) ?_ | refine LOps.nil ?_ | refine andThen_normal ?_ | refine andThen_exit ?_ | refine andThen_ret ?_ | refine inBlock_normal ?_ | refine inBlock_ret ?_ | refine inBlock_here ?_ | refine inBlock_out rfl ?_ | refine LWp.seq ?_ | refine LWp.region ?_ | refine LWp.block ?_ | refine LWp.exit ?_ | refine LWp.ret ?_ | refine LWp.skip ?_ | refine LOps.val (LVal.call rfl rfl (by rw [hP]; exact Try.func15) rfl (by decide) (h1)) rfl rfl rfl ?_ | refine LOps.whenC (LVal.call rfl rfl (by rw [hP]; exact Try.func15) rfl (by decide) (h1)) ?_ | refine LOps.valA ?_ | refine LOps.outA ?_ | refine LOps.whenA ?_ | refine LOps.pickA ?_ | refine LOps.storeA ?_)
  exact ⟨_, LRes.one rfl, rfl, hle⟩

/-- An empty leaf. -/
def newL : LeafV := { noLeaf with p := 17134975606245761280 }
theorem new_L {G : Ctx} (hP : G.P = Try.prog) : LFun G 38 [] (.agg (leafL newL)) := LFun.of fun S => by
  have hD : TabOK G.P D := by rw [hP]; exact hD0
  have h1 := empty_F hP
  refine LCalls.enter (fn := Try.f38) (by rw [hP]; exact Try.func38) rfl rfl ?_
  repeat (first | refine LOps.nil ?_ | refine andThen_normal ?_ | refine andThen_exit ?_ | refine andThen_ret ?_ | refine inBlock_normal ?_ | refine inBlock_ret ?_ | refine inBlock_here ?_ | refine inBlock_out rfl ?_ | refine LWp.seq ?_ | refine LWp.region ?_ | refine LWp.block ?_ | refine LWp.exit ?_ | refine LWp.ret ?_ | refine LWp.skip ?_ | refine LOps.valA ?_ | refine LOps.outA ?_ | refine LOps.whenA ?_ | refine LOps.pickA ?_ | refine LOps.storeA ?_)
  have hle := LS.le.refl S
  refine LOps.do (LDo.alloc hD rfl rfl rfl) rfl rfl rfl ?_
  rintro _ _ ⟨b0, hb0, rfl, rfl⟩
  have s0 := hle.none hb0
  refine LOps.gen (fun S' => S.le S' ∧ S'.box b0 = some (leafL noLeaf)) ⟨hle.newBox hb0 _, (box_new _ _ _).trans (congrArg some zeroLeaf)⟩ ?_
  clear hle hb0 
  rintro S0 ⟨hle, k0⟩
  repeat (first | refine LOps.val (LVal.build (l := leafL newL) hD rfl rfl rfl rfl rfl rfl (by kernel_rfl)) rfl rfl rfl ?_ | refine LOps.storeA (b := b0) (off := 0) (cs := leafL noLeaf) (l := leafL newL) ?_ | refine LOps.nil ?_ | refine andThen_normal ?_ | refine andThen_exit ?_ | refine andThen_ret ?_ | refine inBlock_normal ?_ | refine inBlock_ret ?_ | refine inBlock_here ?_ | refine inBlock_out rfl ?_ | refine LWp.seq ?_ | refine LWp.region ?_ | refine LWp.block ?_ | refine LWp.exit ?_ | refine LWp.ret ?_ | refine LWp.skip ?_ | refine LOps.val (LVal.call rfl rfl (by rw [hP]; exact Try.func57) rfl (by decide) (h1)) rfl rfl rfl ?_ | refine LOps.whenC (LVal.call rfl rfl (by rw [hP]; exact Try.func57) rfl (by decide) (h1)) ?_ | refine LOps.valA ?_ | refine LOps.outA ?_ | refine LOps.whenA ?_ | refine LOps.pickA ?_ | refine LOps.storeA ?_)
  exact ⟨_, LRes.cell rfl (.cell rfl ((box_set _ _ _).trans (congrArg some (stLeaf _ _))) (hP ▸ tok31) (rdLeaf _)), rfl, hle.setBox s0 _⟩
theorem refNew_L {G : Ctx} (hP : G.P = Try.prog) : LFun G 44 [] (.agg (leafL newL)) := LFun.of fun S => by
  have hD : TabOK G.P D := by rw [hP]; exact hD0
  refine LCalls.enter (fn := Try.f44) (by rw [hP]; exact Try.func44) rfl rfl ?_
  repeat (first | refine LOps.nil ?_ | refine andThen_normal ?_ | refine andThen_exit ?_ | refine andThen_ret ?_ | refine inBlock_normal ?_ | refine inBlock_ret ?_ | refine inBlock_here ?_ | refine inBlock_out rfl ?_ | refine LWp.seq ?_ | refine LWp.region ?_ | refine LWp.block ?_ | refine LWp.exit ?_ | refine LWp.ret ?_ | refine LWp.skip ?_ | refine LOps.valA ?_ | refine LOps.outA ?_ | refine LOps.whenA ?_ | refine LOps.pickA ?_ | refine LOps.storeA ?_)
  have hle := LS.le.refl S
  refine LOps.do (LDo.alloc hD rfl rfl rfl) rfl rfl rfl ?_
  rintro _ _ ⟨b0, hb0, rfl, rfl⟩
  have s0 := hle.none hb0
  refine LOps.gen (fun S' => S.le S' ∧ S'.box b0 = some (leafL noLeaf)) ⟨hle.newBox hb0 _, (box_new _ _ _).trans (congrArg some zeroLeaf')⟩ ?_
  clear hle hb0 
  rintro S0 ⟨hle, k0⟩
  repeat (first | refine LOps.val (LVal.build (l := leafL newL) hD rfl rfl rfl rfl rfl rfl (by kernel_rfl)) rfl rfl rfl ?_ | refine LOps.storeA (b := b0) (off := 0) (cs := leafL noLeaf) (l := leafL newL) ?_ | refine LOps.nil ?_ | refine andThen_normal ?_ | refine andThen_exit ?_ | refine andThen_ret ?_ | refine inBlock_normal ?_ | refine inBlock_ret ?_ | refine inBlock_here ?_ | refine inBlock_out rfl ?_ | refine LWp.seq ?_ | refine LWp.region ?_ | refine LWp.block ?_ | refine LWp.exit ?_ | refine LWp.ret ?_ | refine LWp.skip ?_ | refine LOps.valA ?_ | refine LOps.outA ?_ | refine LOps.whenA ?_ | refine LOps.pickA ?_ | refine LOps.storeA ?_)
  exact ⟨_, LRes.cell rfl (.cell rfl ((box_set _ _ _).trans (congrArg some (stLeaf _ _))) (hP ▸ tok45) (rdLeaf _)), rfl, hle.setBox s0 _⟩
end Go.Proofs.Ytgkjhlmfgaaddaa.LF
end
