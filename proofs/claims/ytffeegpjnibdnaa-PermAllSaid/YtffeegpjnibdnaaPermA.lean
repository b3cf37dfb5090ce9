/- The walk of the law PermAll. -/
import Derived.RangeFuncBox
import Derived.Test.YtffeegpjnibdnaaPermR
import Derived.Test.YtffeegpjnibdnaaPermB
import Derived.OpenShut
set_option linter.unusedVariables false
set_option linter.unusedSimpArgs false
namespace Go.Proofs.Ytffeegpjnibdnaa
open Go.RowKit Go.Shelf
attribute [local go_sem] Oper.semAt_some
set_option linter.unusedVariables false

/-- The boxes of the law: the word, 'leave', the result, the round, 'seen'. -/
def Bxs (b C K S p l k s : Nat) (W : World) : Prop :=
  Boxed W b 22 (.int .u64 p) ∧ Boxed W (b + 1) 5 (.int .u8 l) ∧ Boxed W (b + 1 + 1) 4 (.bool false) ∧ Boxed W K 3 (.int .i64 k) ∧ Boxed W S 3 (.int .i64 s) ∧ Boxed W C 22 (.int .u64 p)
theorem bxs_own (b C K S p l k : Nat) : Own (fun s W => Bxs b C K S p l k s W) := fun s X Y row hs hg hr =>
  ⟨boxed_own b _ (fun _ : Unit => _) () X Y row hs.1 hg hr, boxed_own (b + 1) _ (fun _ : Unit => _) () X Y row hs.2.1 hg hr, boxed_own (b + 1 + 1) _ (fun _ : Unit => _) () X Y row hs.2.2.1 hg hr, boxed_own K _ (fun _ : Unit => _) () X Y row hs.2.2.2.1 hg hr, boxed_own S _ (fun _ : Unit => _) () X Y row hs.2.2.2.2.1 hg hr, boxed_own C _ (fun _ : Unit => _) () X Y row hs.2.2.2.2.2 hg hr⟩

theorem Bxs.seen {b C K S p l k s : Nat} {W : World} (h : Bxs b C K S p l k s W) (h1 : b + 2 < C) (h0 : C < K) (h2 : K < S) (s' : Nat) (v : Int) (hv : v = s') : Bxs b C K S p l k s' (W.setCell ⟨S, 0, none⟩ (.int .i64 v)) := by
  subst hv
  exact ⟨h.1.other (by omega) _, h.2.1.other (by omega) _, h.2.2.1.other (by omega) _, h.2.2.2.1.other (by omega) _, h.2.2.2.2.1.set _, h.2.2.2.2.2.other (by omega) _⟩

set_option maxRecDepth 100000 in
set_option maxHeartbeats 2000000 in
theorem permAll_in (p l : Nat) (hp : p < 18446744073709551616) (hl : l < 256) (w : World) :
    CallsIn Fence.wide 6 Try.prog 6 #[.int .u64 p, .int .u8 l] w fun e w' => e = .returned (.bool true) ∧ Below w.heap.size w w' := by
  have HAw := Lib.hid awake_any
  have HR := Lib.hid (fun w => right_any p w hp)
  obtain ⟨c, hc⟩ : ∃ c, c = used p := ⟨_, rfl⟩
  have HL : Hid (rt (slots p) = true → ∀ w, Calls Try.prog 15 #[.int .u64 p] w fun e w' => e = .returned (.int .i64 c) ∧ w = w') := Lib.hid fun h w => by rw [hc]; unfold used; rw [if_pos h]; exact len_any p w hp
  have HA := Lib.hid (all_any p)
  have hro : Fence.wide.round = none := rfl
  refine callsIn_of_wp_marks Try.func6 rfl trivial ?_ hro
  simp only [Try.ntmps6, List.size_toArray, List.length_cons, List.length_nil, Nat.reduceAdd, Nat.reduceSub, Array.replicate_succ, Array.replicate_zero, List.push_toArray, List.append_toArray, List.nil_append, List.cons_append]
  gi_wp2_with fail
  refine ⟨trivial, ?_⟩
  refine (callsIn_wide.2 (HAw.out _)).mono ?_
  obtain ⟨w1, hw1⟩ : ∃ w1, w1 = ((w.alloc (Obj.cells #[Value.int IntKind.u64 p] 22)).alloc (Obj.cells #[Value.int IntKind.u8 l] 5)).alloc (Obj.cells #[Value.bool false] 4) := ⟨_, rfl⟩
  have hs1 : w1.heap.size = w.heap.size + 3 := by rw [hw1]; simp
  have B01 : Below w.heap.size w w1 := by rw [hw1]; exact (((Below.refl _ w).alloc (Nat.le_refl _) _).alloc (by simp) _).alloc (by simp; omega) _
  have p1 : Boxed w1 w.heap.size 22 (.int .u64 p) := by rw [hw1]; exact ((Boxed.new w _ _).alloc _).alloc _
  have l1 : Boxed w1 (w.heap.size + 1) 5 (.int .u8 l) := by
    have := (Boxed.new (w.alloc (Obj.cells #[Value.int IntKind.u64 p] 22)) 5 (.int .u8 l)).alloc (Obj.cells #[Value.bool false] 4)
    rw [hw1]; rwa [World.size_alloc] at this
  have r1 : Boxed w1 (w.heap.size + 1 + 1) 4 (.bool false) := by
    have := Boxed.new ((w.alloc (Obj.cells #[Value.int IntKind.u64 p] 22)).alloc (Obj.cells #[Value.int IntKind.u8 l] 5)) 4 (.bool false)
    rw [hw1]; rwa [World.size_alloc, World.size_alloc] at this
  rw [← hw1]
  clear hw1
  rintro e w2 ⟨rfl, hb2⟩
  have hs2 := hb2.size
  have p2 : Boxed w2 w.heap.size 22 (.int .u64 p) := (hb2.block _ (by omega)).trans p1
  have l2 : Boxed w2 (w.heap.size + 1) 5 (.int .u8 l) := (hb2.block _ (by omega)).trans l1
  have r2 : Boxed w2 (w.heap.size + 1 + 1) 4 (.bool false) := (hb2.block _ (by omega)).trans r1
  have B02 : Below w.heap.size w w2 := B01.trans (hb2.mono (by omega))
  have hsz : w.heap.size + 3 ≤ w2.heap.size := by omega
  clear hb2 B01 p1 l1 r1 hs2 hs1
  have pc := p2.cell
  gi_wp2_with fail
  refine ⟨trivial, ?_⟩
  refine (callsIn_wide.2 (HR.out _)).mono ?_
  rintro e w' ⟨rfl, rfl⟩
  cases hr : rt (slots p) with
  | false =>
    have h0 : used p = 0 := by unfold used; rw [hr]; rfl
    gi_wp2_with fail
    refine ⟨trivial, ?_⟩
    refine (callsIn_wide.2 (HA.out _)).mono ?_
    rintro e w' ⟨rfl, rfl⟩
    gi_wp2_with fail
    obtain ⟨w3, hw3⟩ : ∃ w3, w3 = (w2.alloc (Obj.cells #[Value.int IntKind.u64 p] 22)).alloc (Obj.cells #[Value.int IntKind.i64 0] 3) := ⟨_, rfl⟩
    have hs3 : w3.heap.size = w2.heap.size + 2 := by rw [hw3]; simp
    have B03 : Below w.heap.size w w3 := by rw [hw3]; exact (B02.alloc (by omega) _).alloc (by simp; omega) _
    have p3 : Boxed w3 w.heap.size 22 (.int .u64 p) := by rw [hw3]; exact (p2.alloc _).alloc _
    have l3 : Boxed w3 (w.heap.size + 1) 5 (.int .u8 l) := by rw [hw3]; exact (l2.alloc _).alloc _
    have r3 : Boxed w3 (w.heap.size + 1 + 1) 4 (.bool false) := by rw [hw3]; exact (r2.alloc _).alloc _
    have c3 : Boxed w3 w2.heap.size 22 (.int .u64 p) := by rw [hw3]; exact (Boxed.new _ _ _).alloc _
    have k3 : Boxed w3 (w2.heap.size + 1) 3 (.int .i64 0) := by
      have := Boxed.new (w2.alloc (Obj.cells #[Value.int IntKind.u64 p] 22)) 3 (.int .i64 0)
      rw [hw3]; rwa [World.size_alloc] at this
    rw [← hw3]
    clear hw3 p2 l2 r2 B02 pc
    have pc := p3.cell
    have kc := k3.cell
    have kf := k3.frozen
    refine wpIn_loop_rounds 3 ?_
    rw [roundsIn_succ]
    gi_wp2_with fail
    refine rangeG hro (by decide) (gf := 23) (lb := #[.pointer (some ⟨w2.heap.size, 0, none⟩)]) rfl trivial (enters_of Try.func23 (by kernel_rfl) rfl)
      (all_stops 5 (by decide) w2.heap.size (w2.heap.size + 1) p hp (w3.alloc (Obj.cells #[Value.int IntKind.i64 0] 3)) (by simp; omega) (by omega) ((c3.alloc _).cell)) belowK_t (belowK_b (by simp; omega)) (Below.refl _ _) (fun _ => rfl)
      (fun pre W => (Bxs w.heap.size w2.heap.size (w2.heap.size + 1) (w2.heap.size + 2) p l 0 pre.length W ∧ pre.length ≤ l) ∧ Below w.heap.size w W)
      (fun c pre W => ((c = .ret ∧ ∃ p0 x, pre = p0 ++ [x] ∧ x.1 ≠ p0.length) ∨ (c = .exit 2 ∧ pre.length = l + 1 ∧ Bxs w.heap.size w2.heap.size (w2.heap.size + 1) (w2.heap.size + 2) p l 0 pre.length W)) ∧ Below w.heap.size w W)
      ?own ?ownx ?start ?ab ?done ?stop
    case own => exact OwnFrom.and (Own.from (fun s X Y row hs hg hr => ⟨bxs_own _ _ _ _ _ _ _ s.length X Y row hs.1 hg hr, hs.2⟩) _) (ownFrom_below (Nat.le_refl _) (by simp; omega))
    case ownx => exact fun c => OwnFrom.and (Own.from (fun s X Y row hs hg hr => hs.imp id (fun h => ⟨h.1, h.2.1, bxs_own _ _ _ _ _ _ _ s.length X Y row h.2.2 hg hr⟩)) _) (ownFrom_below (Nat.le_refl _) (by simp; omega))
    case start => exact ⟨⟨⟨p3.alloc _, l3.alloc _, r3.alloc _, k3.alloc _, by have := Boxed.new w3 3 (.int .i64 0); rwa [hs3] at this, c3.alloc _⟩, Nat.zero_le _⟩, B03.alloc (by omega) _⟩
    case ab =>
      apply Exists.intro
      refine ⟨?assign, ?body⟩
      case assign =>
        intro l x W K hK
        gi_wp2
        exact hK
      case body =>
        rintro lp pre ⟨x, hxl⟩ W ⟨⟨hX, hpl⟩, hB⟩ hlen
        have cP := hX.1.cell
        have cL := hX.2.1.cell
        have fR := hX.2.2.1.frozen
        have cR := hX.2.2.1.cell
        have cK := hX.2.2.2.1.cell
        have cS := hX.2.2.2.2.1.cell
        have fS := hX.2.2.2.2.1.frozen
        have h15 := used_le p
        first
        | exact absurd hlen (by omega)
        | (by_cases hx : x = pre.length
           · subst hx
             obtain ⟨y, hy⟩ : ∃ y, y = nib p pre.length := ⟨_, rfl⟩
             have hAt : Hid (∀ w, Calls Try.prog 13 #[.int .u64 p, .int .i64 (pre.length : Int)] w fun e w' => e = .returned (.int .i64 y) ∧ w = w') := Lib.hid fun w => by rw [hy]; exact at_in p pre.length w hp (by omega)
             rw [← hy]
             have HY := Lib.hid hy
             clear hy
             have B1 : ∀ v, Below w.heap.size w (W.setCell ⟨w2.heap.size + 2, 0, none⟩ v) := fun v => hB.setCell (p := ⟨w2.heap.size + 2, 0, none⟩) (Nat.le_trans (Nat.le_add_right _ 3) (Nat.le_trans hsz (Nat.le_add_right _ 2))) _
             have X1 := hX.seen (by omega) (by omega) (by omega) (pre.length + 1) (pre.length + 1) rfl
             have B2 : ∀ v, Below (w2.heap.size + 1) W (W.setCell ⟨w2.heap.size + 2, 0, none⟩ v) := fun v => (Below.refl _ _).setCell (p := ⟨w2.heap.size + 2, 0, none⟩) (Nat.le_succ _) _
             have cP1 := X1.1.cell
             gi_wp2_with fail
             refine ⟨trivial, ?_⟩
             refine (CallsIn.inRound lp (callsIn_wide.2 (hAt.out _))).mono ?_
             rintro e w' ⟨rfl, rfl⟩
             by_cases hq : pre.length = l
             · have hq' : decide ((l : Int) < ((pre.length : Nat) : Int) + 1) = true := by simp; omega
               have hqH := Lib.hid hq
               clear hq
               gi_wp2
               exact ⟨(KeepsOthers.setCell _ _ _).from _, .inr ⟨rfl, by have := hqH.out; simp; omega, by rw [List.length_append]; exact X1⟩, B1 _⟩
             · have hq' : decide ((l : Int) < ((pre.length : Nat) : Int) + 1) = false := by simp; omega
               gi_wp2
               exact ⟨(KeepsOthers.setCell _ _ _).from _, B2 _, ⟨by rw [List.length_append]; exact X1, by simp; omega⟩, B1 _⟩
           · have hx' : (x : Int) ≠ (pre.length : Int) := by omega
             gi_wp2_with fail
             refine ⟨trivial, ?_⟩
             gi_wp2
             exact ⟨(KeepsOthers.setCell _ _ _).from _, .inl ⟨rfl, pre, ⟨x, hxl⟩, rfl, hx⟩, hB.setCell (p := ⟨w.heap.size + 1 + 1, 0, none⟩) (Nat.le_add_right _ 2) _⟩)
    case done =>
      rintro D1 ys W hD rfl ⟨⟨hX, hpl⟩, hB⟩ hK
      rw [uptoF_length p _ (Nat.le_refl _)] at hX hpl
      have hSz : w2.heap.size + 3 ≤ W.heap.size := by have := hX.2.2.2.2.1.lt; omega
      have cL := hX.2.1.cell
      have cK := hX.2.2.2.1.cell
      have cS := hX.2.2.2.2.1.cell
      have hm : ¬ ((l : Int) + 1 < ((used p : Nat) : Int)) := by omega
      gi_wp2_with fail
      rw [roundsIn_succ]
      obtain ⟨w5, hw5⟩ : ∃ w5, w5 = W.alloc (Obj.cells #[Value.int IntKind.i64 1] 3) := ⟨_, rfl⟩
      have hWs : w2.heap.size + 3 ≤ W.heap.size := hSz
      have hs5 : w5.heap.size = W.heap.size + 1 := by rw [hw5]; simp
      have B05 : Below w.heap.size w w5 := by rw [hw5]; exact hB.alloc (by omega) _
      have p5 : Boxed w5 w.heap.size 22 (.int .u64 p) := by rw [hw5]; exact hX.1.alloc _
      have l5 : Boxed w5 (w.heap.size + 1) 5 (.int .u8 l) := by rw [hw5]; exact hX.2.1.alloc _
      have r5 : Boxed w5 (w.heap.size + 1 + 1) 4 (.bool false) := by rw [hw5]; exact hX.2.2.1.alloc _
      have c5 : Boxed w5 w2.heap.size 22 (.int .u64 p) := by rw [hw5]; exact hX.2.2.2.2.2.alloc _
      have k5 : Boxed w5 W.heap.size 3 (.int .i64 1) := by rw [hw5]; exact Boxed.new _ _ _
      have d5 : w5.heap[D1]? = some (.deferred (some [])) := by rw [hw5]; exact (KeepsOthers.alloc W _).same D1 _ hK rfl
      have hD1 : D1 < w5.heap.size := (Array.getElem?_eq_some_iff.1 d5).1
      rw [← hw5]
      clear hw5 hX hK hB cL cK cS
      have cK := k5.cell
      gi_wp2_with fail
      refine rangeG hro (by decide) (gf := 23) (lb := #[.pointer (some ⟨w2.heap.size, 0, none⟩)]) rfl trivial (enters_of Try.func23 (by kernel_rfl) rfl)
        (all_stops 5 (by decide) w2.heap.size (w2.heap.size + 1) p hp (w5.alloc (Obj.cells #[Value.int IntKind.i64 0] 3)) (by simp; omega) (by omega) ((c5.alloc _).cell)) belowK_t (belowK_b (by simp; omega)) (Below.refl _ _) (fun _ => rfl)
        (fun pre X => (Bxs w.heap.size w2.heap.size W.heap.size (W.heap.size + 1) p l 1 pre.length X ∧ X.heap[D1]? = some (.deferred (some []))) ∧ Below w.heap.size w X)
        (fun c pre X => c = .ret ∧ ∃ p0 x, pre = p0 ++ [x] ∧ x.1 ≠ p0.length)
        ?own2 ?ownx2 ?start2 ?ab2 ?done2 ?stop2
      case own2 => exact OwnFrom.and (OwnFrom.and (Own.from (fun s X Y row hs hg hr => bxs_own _ _ _ _ _ _ _ s.length X Y row hs hg hr) _) (fun s X Y row hs hg hr => (hg.block D1 (Array.getElem?_eq_some_iff.1 hs).1 (fun e => by have := (hr D1 e.symm).1; simp at this; omega)).trans hs)) (ownFrom_below (Nat.le_refl _) (by simp; omega))
      case ownx2 => exact fun c => fun s X Y row hs hg hr => hs
      case start2 => exact ⟨⟨⟨p5.alloc _, l5.alloc _, r5.alloc _, k5.alloc _, by have := Boxed.new w5 3 (.int .i64 0); rwa [hs5] at this, c5.alloc _⟩, (KeepsOthers.alloc _ _).same D1 _ d5 rfl⟩, B05.alloc (by omega) _⟩
      case ab2 =>
        apply Exists.intro
        refine ⟨?assign2, ?body2⟩
        case assign2 =>
          intro l x W K hK
          gi_wp2
          exact hK
        case body2 =>
          rintro lp pre ⟨x, hxl⟩ X ⟨⟨hX, hE⟩, hB⟩ hlen
          have cP := hX.1.cell
          have cL := hX.2.1.cell
          have cR := hX.2.2.1.cell
          have fR := hX.2.2.1.frozen
          have cK := hX.2.2.2.1.cell
          have cS := hX.2.2.2.2.1.cell
          have fS := hX.2.2.2.2.1.frozen
          have h15 := used_le p
          first
          | exact absurd hlen (by omega)
          | (by_cases hx : x = pre.length
             · subst hx
               obtain ⟨y, hy⟩ : ∃ y, y = nib p pre.length := ⟨_, rfl⟩
               have hAt : Hid (∀ w, Calls Try.prog 13 #[.int .u64 p, .int .i64 (pre.length : Int)] w fun e w' => e = .returned (.int .i64 y) ∧ w = w') := Lib.hid fun w => by rw [hy]; exact at_in p pre.length w hp (by omega)
               rw [← hy]
               have HY := Lib.hid hy
               clear hy
               have B1 : ∀ v, Below w.heap.size w (X.setCell ⟨W.heap.size + 1, 0, none⟩ v) := fun v => hB.setCell (p := ⟨W.heap.size + 1, 0, none⟩) (Nat.le_trans (Nat.le_trans (Nat.le_add_right _ 3) hsz) (Nat.le_trans (Nat.le_trans (Nat.le_add_right _ 3) hWs) (Nat.le_add_right _ 1))) _
               have X1 := hX.seen (by omega) (by omega) (by omega) (pre.length + 1) (pre.length + 1) rfl
               have B2 : ∀ v, Below (w2.heap.size + 1) X (X.setCell ⟨W.heap.size + 1, 0, none⟩ v) := fun v => (Below.refl _ _).setCell (p := ⟨W.heap.size + 1, 0, none⟩) (Nat.le_trans (Nat.le_trans (Nat.le_add_right _ 2) hWs) (Nat.le_add_right _ 1)) _
               have K1 : ∀ v, (X.setCell ⟨W.heap.size + 1, 0, none⟩ v).heap[D1]? = some (.deferred (some [])) := fun v => (KeepsOthers.setCell X _ v).same D1 _ hE rfl
               have cP1 := X1.1.cell
               gi_wp2_with fail
               refine ⟨trivial, ?_⟩
               refine (CallsIn.inRound lp (callsIn_wide.2 (hAt.out _))).mono ?_
               rintro e w' ⟨rfl, rfl⟩
               gi_wp2
               exact ⟨(KeepsOthers.setCell _ _ _).from _, B2 _, ⟨by rw [List.length_append]; exact X1, K1 _⟩, B1 _⟩
             · have hx' : (x : Int) ≠ (pre.length : Int) := by omega
               gi_wp2_with fail
               refine ⟨trivial, ?_⟩
               gi_wp2
               exact ⟨(KeepsOthers.setCell _ _ _).from _, rfl, pre, ⟨x, hxl⟩, rfl, hx⟩)
      case done2 =>
        rintro D2 ys X hD2 rfl ⟨⟨hX, hE1⟩, hB⟩ hE2
        rw [uptoF_length p _ (Nat.le_refl _)] at hX
        have cR := hX.2.2.1.cell
        have fR := hX.2.2.1.frozen
        have cK := hX.2.2.2.1.cell
        have cS := hX.2.2.2.2.1.cell
        have hR5 := hX.2.2.1.lt
        have hE1' : ((X.setCell ⟨w.heap.size + 1 + 1, 0, none⟩ (.bool true)).alloc (Obj.cells #[Value.int IntKind.i64 2] 3)).heap[D1]? = some (.deferred (some [])) := (KeepsOthers.alloc _ _).same D1 _ ((KeepsOthers.setCell X _ _).same D1 _ hE1 rfl) rfl
        have hE2' : ((X.setCell ⟨w.heap.size + 1 + 1, 0, none⟩ (.bool true)).alloc (Obj.cells #[Value.int IntKind.i64 2] 3)).heap[D2]? = some (.deferred (some [])) := (KeepsOthers.alloc _ _).same D2 _ ((KeepsOthers.setCell X _ _).same D2 _ hE2 rfl) rfl
        have hrr : Boxed ((X.setCell ⟨w.heap.size + 1 + 1, 0, none⟩ (.bool true)).alloc (Obj.cells #[Value.int IntKind.i64 2] 3)) (w.heap.size + 1 + 1) 4 (.bool true) := (hX.2.2.1.set _).alloc _
        have hBB : Below w.heap.size w ((X.setCell ⟨w.heap.size + 1 + 1, 0, none⟩ (.bool true)).alloc (Obj.cells #[Value.int IntKind.i64 2] 3)) := (hB.setCell (p := ⟨w.heap.size + 1 + 1, 0, none⟩) (Nat.le_add_right _ 2) _).alloc (Nat.le_trans hB.size (by simp)) _
        have hD12 : D1 ≠ D2 := by simp at hD2; omega
        have hwD : w.heap.size ≤ D1 := by simp at hD; omega
        have hwD2 : w.heap.size ≤ D2 := by simp at hD2; omega
        gi_wp2_with fail
        rw [roundsIn_succ]
        gi_wp2_with fail
        obtain ⟨Y, hY⟩ : ∃ Y, Y = (X.setCell ⟨w.heap.size + 1 + 1, 0, none⟩ (.bool true)).alloc (Obj.cells #[Value.int IntKind.i64 2] 3) := ⟨_, rfl⟩
        rw [← hY] at hE1' hE2' hrr hBB ⊢
        clear hY
        refine ⟨by simp, .inl ⟨_, _, rfl, run_takeDeferred hE2', ?_⟩⟩
        have hE3 : (Y.putObj D2 (.deferred none)).heap[D1]? = some (.deferred (some [])) := ((grownBy_putObj' Y D2 (.deferred none)).block D1 (Array.getElem?_eq_some_iff.1 hE1').1 (by simpa using hD12)).trans hE1'
        refine ⟨by simp, .inl ⟨_, _, rfl, run_takeDeferred hE3, ?_⟩⟩
        have hr6 : Boxed (Y.putObj D2 (.deferred none)) (w.heap.size + 1 + 1) 4 (.bool true) := boxed_own (w.heap.size + 1 + 1) _ (fun _ : Unit => _) () _ _ _ hrr (grownBy_putObj' Y D2 (.deferred none)) (fun r e => by cases e; exact ⟨_, hE2', rfl⟩)
        have hr7 : Boxed ((Y.putObj D2 (.deferred none)).putObj D1 (.deferred none)) (w.heap.size + 1 + 1) 4 (.bool true) := boxed_own (w.heap.size + 1 + 1) _ (fun _ : Unit => _) () _ _ _ hr6 (grownBy_putObj' _ D1 (.deferred none)) (fun r e => by cases e; exact ⟨_, hE3, rfl⟩)
        have hc7 := hr7.cell
        refine ⟨.bool true, ?_, rfl, ?_⟩
        · simp [results, Try.f6, go_sem, hc7]
        · exact (hBB.trans (belowK_b (w := w) (Nat.le_refl _) Y D2 _ _ hwD2 hE2' rfl rfl)).trans (belowK_b (w := w) (Nat.le_refl _) _ D1 _ _ hwD hE3 rfl rfl)
      case stop2 =>
        rintro D2 c pre X hD2 ⟨k2, hk2, rfl⟩ ⟨rfl, p0, x, h1, h2⟩ _
        exact (h2 (uptoF_last h1.symm)).elim
    case stop =>
      rintro D1 c pre W hD ⟨k, hk, rfl⟩ ⟨⟨rfl, p0, x, h1, h2⟩ | ⟨rfl, hpl, hX⟩, hB⟩ hK
      · exact (h2 (uptoF_last h1.symm)).elim
      · first
        | exact absurd hk (by rw [uptoF_length p _ hk] at hpl; omega)
        | (rw [hpl] at hX
           rw [uptoF_length p _ hk] at hpl
           have hSz : w2.heap.size + 3 ≤ W.heap.size := by have := hX.2.2.2.2.1.lt; omega
           have cL := hX.2.1.cell
           have cK := hX.2.2.2.1.cell
           have cS := hX.2.2.2.2.1.cell
           rcases Nat.lt_or_ge (l + 1) (used p) with hlt | hge
           · have hm : (l : Int) + 1 < ((used p : Nat) : Int) := by omega
             gi_wp2_with fail
             rw [roundsIn_succ]
             obtain ⟨w5, hw5⟩ : ∃ w5, w5 = W.alloc (Obj.cells #[Value.int IntKind.i64 1] 3) := ⟨_, rfl⟩
             have hWs : w2.heap.size + 3 ≤ W.heap.size := hSz
             have hs5 : w5.heap.size = W.heap.size + 1 := by rw [hw5]; simp
             have B05 : Below w.heap.size w w5 := by rw [hw5]; exact hB.alloc (by omega) _
             have p5 : Boxed w5 w.heap.size 22 (.int .u64 p) := by rw [hw5]; exact hX.1.alloc _
             have l5 : Boxed w5 (w.heap.size + 1) 5 (.int .u8 l) := by rw [hw5]; exact hX.2.1.alloc _
             have r5 : Boxed w5 (w.heap.size + 1 + 1) 4 (.bool false) := by rw [hw5]; exact hX.2.2.1.alloc _
             have c5 : Boxed w5 w2.heap.size 22 (.int .u64 p) := by rw [hw5]; exact hX.2.2.2.2.2.alloc _
             have k5 : Boxed w5 W.heap.size 3 (.int .i64 1) := by rw [hw5]; exact Boxed.new _ _ _
             have d5 : w5.heap[D1]? = some (.deferred (some [])) := by rw [hw5]; exact (KeepsOthers.alloc W _).same D1 _ hK rfl
             have hD1 : D1 < w5.heap.size := (Array.getElem?_eq_some_iff.1 d5).1
             rw [← hw5]
             clear hw5 hX hK hB cL cK cS
             have cK := k5.cell
             gi_wp2_with fail
             refine rangeG hro (by decide) (gf := 23) (lb := #[.pointer (some ⟨w2.heap.size, 0, none⟩)]) rfl trivial (enters_of Try.func23 (by kernel_rfl) rfl)
               (all_stops 5 (by decide) w2.heap.size (w2.heap.size + 1) p hp (w5.alloc (Obj.cells #[Value.int IntKind.i64 0] 3)) (by simp; omega) (by omega) ((c5.alloc _).cell)) belowK_t (belowK_b (by simp; omega)) (Below.refl _ _) (fun _ => rfl)
               (fun pre X => (Bxs w.heap.size w2.heap.size W.heap.size (W.heap.size + 1) p l 1 pre.length X ∧ X.heap[D1]? = some (.deferred (some []))) ∧ Below w.heap.size w X)
               (fun c pre X => c = .ret ∧ ∃ p0 x, pre = p0 ++ [x] ∧ x.1 ≠ p0.length)
               ?own2 ?ownx2 ?start2 ?ab2 ?done2 ?stop2
             case own2 => exact OwnFrom.and (OwnFrom.and (Own.from (fun s X Y row hs hg hr => bxs_own _ _ _ _ _ _ _ s.length X Y row hs hg hr) _) (fun s X Y row hs hg hr => (hg.block D1 (Array.getElem?_eq_some_iff.1 hs).1 (fun e => by have := (hr D1 e.symm).1; simp at this; omega)).trans hs)) (ownFrom_below (Nat.le_refl _) (by simp; omega))
             case ownx2 => exact fun c => fun s X Y row hs hg hr => hs
             case start2 => exact ⟨⟨⟨p5.alloc _, l5.alloc _, r5.alloc _, k5.alloc _, by have := Boxed.new w5 3 (.int .i64 0); rwa [hs5] at this, c5.alloc _⟩, (KeepsOthers.alloc _ _).same D1 _ d5 rfl⟩, B05.alloc (by omega) _⟩
             case ab2 =>
               apply Exists.intro
               refine ⟨?assign2, ?body2⟩
               case assign2 =>
                 intro l x W K hK
                 gi_wp2
                 exact hK
               case body2 =>
                 rintro lp pre ⟨x, hxl⟩ X ⟨⟨hX, hE⟩, hB⟩ hlen
                 have cP := hX.1.cell
                 have cL := hX.2.1.cell
                 have cR := hX.2.2.1.cell
                 have fR := hX.2.2.1.frozen
                 have cK := hX.2.2.2.1.cell
                 have cS := hX.2.2.2.2.1.cell
                 have fS := hX.2.2.2.2.1.frozen
                 have h15 := used_le p
                 first
                 | exact absurd hlen (by omega)
                 | (by_cases hx : x = pre.length
                    · subst hx
                      obtain ⟨y, hy⟩ : ∃ y, y = nib p pre.length := ⟨_, rfl⟩
                      have hAt : Hid (∀ w, Calls Try.prog 13 #[.int .u64 p, .int .i64 (pre.length : Int)] w fun e w' => e = .returned (.int .i64 y) ∧ w = w') := Lib.hid fun w => by rw [hy]; exact at_in p pre.length w hp (by omega)
                      rw [← hy]
                      have HY := Lib.hid hy
                      clear hy
                      have B1 : ∀ v, Below w.heap.size w (X.setCell ⟨W.heap.size + 1, 0, none⟩ v) := fun v => hB.setCell (p := ⟨W.heap.size + 1, 0, none⟩) (Nat.le_trans (Nat.le_trans (Nat.le_add_right _ 3) hsz) (Nat.le_trans (Nat.le_trans (Nat.le_add_right _ 3) hWs) (Nat.le_add_right _ 1))) _
                      have X1 := hX.seen (by omega) (by omega) (by omega) (pre.length + 1) (pre.length + 1) rfl
                      have B2 : ∀ v, Below (w2.heap.size + 1) X (X.setCell ⟨W.heap.size + 1, 0, none⟩ v) := fun v => (Below.refl _ _).setCell (p := ⟨W.heap.size + 1, 0, none⟩) (Nat.le_trans (Nat.le_trans (Nat.le_add_right _ 2) hWs) (Nat.le_add_right _ 1)) _
                      have K1 : ∀ v, (X.setCell ⟨W.heap.size + 1, 0, none⟩ v).heap[D1]? = some (.deferred (some [])) := fun v => (KeepsOthers.setCell X _ v).same D1 _ hE rfl
                      have cP1 := X1.1.cell
                      gi_wp2_with fail
                      refine ⟨trivial, ?_⟩
                      refine (CallsIn.inRound lp (callsIn_wide.2 (hAt.out _))).mono ?_
                      rintro e w' ⟨rfl, rfl⟩
                      gi_wp2
                      exact ⟨(KeepsOthers.setCell _ _ _).from _, B2 _, ⟨by rw [List.length_append]; exact X1, K1 _⟩, B1 _⟩
                    · have hx' : (x : Int) ≠ (pre.length : Int) := by omega
                      gi_wp2_with fail
                      refine ⟨trivial, ?_⟩
                      gi_wp2
                      exact ⟨(KeepsOthers.setCell _ _ _).from _, rfl, pre, ⟨x, hxl⟩, rfl, hx⟩)
             case done2 =>
               rintro D2 ys X hD2 rfl ⟨⟨hX, hE1⟩, hB⟩ hE2
               rw [uptoF_length p _ (Nat.le_refl _)] at hX
               have cR := hX.2.2.1.cell
               have fR := hX.2.2.1.frozen
               have cK := hX.2.2.2.1.cell
               have cS := hX.2.2.2.2.1.cell
               have hR5 := hX.2.2.1.lt
               have hE1' : ((X.setCell ⟨w.heap.size + 1 + 1, 0, none⟩ (.bool true)).alloc (Obj.cells #[Value.int IntKind.i64 2] 3)).heap[D1]? = some (.deferred (some [])) := (KeepsOthers.alloc _ _).same D1 _ ((KeepsOthers.setCell X _ _).same D1 _ hE1 rfl) rfl
               have hE2' : ((X.setCell ⟨w.heap.size + 1 + 1, 0, none⟩ (.bool true)).alloc (Obj.cells #[Value.int IntKind.i64 2] 3)).heap[D2]? = some (.deferred (some [])) := (KeepsOthers.alloc _ _).same D2 _ ((KeepsOthers.setCell X _ _).same D2 _ hE2 rfl) rfl
               have hrr : Boxed ((X.setCell ⟨w.heap.size + 1 + 1, 0, none⟩ (.bool true)).alloc (Obj.cells #[Value.int IntKind.i64 2] 3)) (w.heap.size + 1 + 1) 4 (.bool true) := (hX.2.2.1.set _).alloc _
               have hBB : Below w.heap.size w ((X.setCell ⟨w.heap.size + 1 + 1, 0, none⟩ (.bool true)).alloc (Obj.cells #[Value.int IntKind.i64 2] 3)) := (hB.setCell (p := ⟨w.heap.size + 1 + 1, 0, none⟩) (Nat.le_add_right _ 2) _).alloc (Nat.le_trans hB.size (by simp)) _
               have hD12 : D1 ≠ D2 := by simp at hD2; omega
               have hwD : w.heap.size ≤ D1 := by simp at hD; omega
               have hwD2 : w.heap.size ≤ D2 := by simp at hD2; omega
               gi_wp2_with fail
               rw [roundsIn_succ]
               gi_wp2_with fail
               obtain ⟨Y, hY⟩ : ∃ Y, Y = (X.setCell ⟨w.heap.size + 1 + 1, 0, none⟩ (.bool true)).alloc (Obj.cells #[Value.int IntKind.i64 2] 3) := ⟨_, rfl⟩
               rw [← hY] at hE1' hE2' hrr hBB ⊢
               clear hY
               refine ⟨by simp, .inl ⟨_, _, rfl, run_takeDeferred hE2', ?_⟩⟩
               have hE3 : (Y.putObj D2 (.deferred none)).heap[D1]? = some (.deferred (some [])) := ((grownBy_putObj' Y D2 (.deferred none)).block D1 (Array.getElem?_eq_some_iff.1 hE1').1 (by simpa using hD12)).trans hE1'
               refine ⟨by simp, .inl ⟨_, _, rfl, run_takeDeferred hE3, ?_⟩⟩
               have hr6 : Boxed (Y.putObj D2 (.deferred none)) (w.heap.size + 1 + 1) 4 (.bool true) := boxed_own (w.heap.size + 1 + 1) _ (fun _ : Unit => _) () _ _ _ hrr (grownBy_putObj' Y D2 (.deferred none)) (fun r e => by cases e; exact ⟨_, hE2', rfl⟩)
               have hr7 : Boxed ((Y.putObj D2 (.deferred none)).putObj D1 (.deferred none)) (w.heap.size + 1 + 1) 4 (.bool true) := boxed_own (w.heap.size + 1 + 1) _ (fun _ : Unit => _) () _ _ _ hr6 (grownBy_putObj' _ D1 (.deferred none)) (fun r e => by cases e; exact ⟨_, hE3, rfl⟩)
               have hc7 := hr7.cell
               refine ⟨.bool true, ?_, rfl, ?_⟩
               · simp [results, Try.f6, go_sem, hc7]
               · exact (hBB.trans (belowK_b (w := w) (Nat.le_refl _) Y D2 _ _ hwD2 hE2' rfl rfl)).trans (belowK_b (w := w) (Nat.le_refl _) _ D1 _ _ hwD hE3 rfl rfl)
             case stop2 =>
               rintro D2 c pre X hD2 ⟨k2, hk2, rfl⟩ ⟨rfl, p0, x, h1, h2⟩ _
               exact (h2 (uptoF_last h1.symm)).elim
           · have hm : (l : Int) + 1 = ((used p : Nat) : Int) := by omega
             gi_wp2_with fail
             rw [roundsIn_succ]
             obtain ⟨w5, hw5⟩ : ∃ w5, w5 = W.alloc (Obj.cells #[Value.int IntKind.i64 1] 3) := ⟨_, rfl⟩
             have hWs : w2.heap.size + 3 ≤ W.heap.size := hSz
             have hs5 : w5.heap.size = W.heap.size + 1 := by rw [hw5]; simp
             have B05 : Below w.heap.size w w5 := by rw [hw5]; exact hB.alloc (by omega) _
             have p5 : Boxed w5 w.heap.size 22 (.int .u64 p) := by rw [hw5]; exact hX.1.alloc _
             have l5 : Boxed w5 (w.heap.size + 1) 5 (.int .u8 l) := by rw [hw5]; exact hX.2.1.alloc _
             have r5 : Boxed w5 (w.heap.size + 1 + 1) 4 (.bool false) := by rw [hw5]; exact hX.2.2.1.alloc _
             have c5 : Boxed w5 w2.heap.size 22 (.int .u64 p) := by rw [hw5]; exact hX.2.2.2.2.2.alloc _
             have k5 : Boxed w5 W.heap.size 3 (.int .i64 1) := by rw [hw5]; exact Boxed.new _ _ _
             have d5 : w5.heap[D1]? = some (.deferred (some [])) := by rw [hw5]; exact (KeepsOthers.alloc W _).same D1 _ hK rfl
             have hD1 : D1 < w5.heap.size := (Array.getElem?_eq_some_iff.1 d5).1
             rw [← hw5]
             clear hw5 hX hK hB cL cK cS
             have cK := k5.cell
             gi_wp2_with fail
             refine rangeG hro (by decide) (gf := 23) (lb := #[.pointer (some ⟨w2.heap.size, 0, none⟩)]) rfl trivial (enters_of Try.func23 (by kernel_rfl) rfl)
               (all_stops 5 (by decide) w2.heap.size (w2.heap.size + 1) p hp (w5.alloc (Obj.cells #[Value.int IntKind.i64 0] 3)) (by simp; omega) (by omega) ((c5.alloc _).cell)) belowK_t (belowK_b (by simp; omega)) (Below.refl _ _) (fun _ => rfl)
               (fun pre X => (Bxs w.heap.size w2.heap.size W.heap.size (W.heap.size + 1) p l 1 pre.length X ∧ X.heap[D1]? = some (.deferred (some []))) ∧ Below w.heap.size w X)
               (fun c pre X => c = .ret ∧ ∃ p0 x, pre = p0 ++ [x] ∧ x.1 ≠ p0.length)
               ?own2 ?ownx2 ?start2 ?ab2 ?done2 ?stop2
             case own2 => exact OwnFrom.and (OwnFrom.and (Own.from (fun s X Y row hs hg hr => bxs_own _ _ _ _ _ _ _ s.length X Y row hs hg hr) _) (fun s X Y row hs hg hr => (hg.block D1 (Array.getElem?_eq_some_iff.1 hs).1 (fun e => by have := (hr D1 e.symm).1; simp at this; omega)).trans hs)) (ownFrom_below (Nat.le_refl _) (by simp; omega))
             case ownx2 => exact fun c => fun s X Y row hs hg hr => hs
             case start2 => exact ⟨⟨⟨p5.alloc _, l5.alloc _, r5.alloc _, k5.alloc _, by have := Boxed.new w5 3 (.int .i64 0); rwa [hs5] at this, c5.alloc _⟩, (KeepsOthers.alloc _ _).same D1 _ d5 rfl⟩, B05.alloc (by omega) _⟩
             case ab2 =>
               apply Exists.intro
               refine ⟨?assign2, ?body2⟩
               case assign2 =>
                 intro l x W K hK
                 gi_wp2
                 exact hK
               case body2 =>
                 rintro lp pre ⟨x, hxl⟩ X ⟨⟨hX, hE⟩, hB⟩ hlen
                 have cP := hX.1.cell
                 have cL := hX.2.1.cell
                 have cR := hX.2.2.1.cell
                 have fR := hX.2.2.1.frozen
                 have cK := hX.2.2.2.1.cell
                 have cS := hX.2.2.2.2.1.cell
                 have fS := hX.2.2.2.2.1.frozen
                 have h15 := used_le p
                 first
                 | exact absurd hlen (by omega)
                 | (by_cases hx : x = pre.length
                    · subst hx
                      obtain ⟨y, hy⟩ : ∃ y, y = nib p pre.length := ⟨_, rfl⟩
                      have hAt : Hid (∀ w, Calls Try.prog 13 #[.int .u64 p, .int .i64 (pre.length : Int)] w fun e w' => e = .returned (.int .i64 y) ∧ w = w') := Lib.hid fun w => by rw [hy]; exact at_in p pre.length w hp (by omega)
                      rw [← hy]
                      have HY := Lib.hid hy
                      clear hy
                      have B1 : ∀ v, Below w.heap.size w (X.setCell ⟨W.heap.size + 1, 0, none⟩ v) := fun v => hB.setCell (p := ⟨W.heap.size + 1, 0, none⟩) (Nat.le_trans (Nat.le_trans (Nat.le_add_right _ 3) hsz) (Nat.le_trans (Nat.le_trans (Nat.le_add_right _ 3) hWs) (Nat.le_add_right _ 1))) _
                      have X1 := hX.seen (by omega) (by omega) (by omega) (pre.length + 1) (pre.length + 1) rfl
                      have B2 : ∀ v, Below (w2.heap.size + 1) X (X.setCell ⟨W.heap.size + 1, 0, none⟩ v) := fun v => (Below.refl _ _).setCell (p := ⟨W.heap.size + 1, 0, none⟩) (Nat.le_trans (Nat.le_trans (Nat.le_add_right _ 2) hWs) (Nat.le_add_right _ 1)) _
                      have K1 : ∀ v, (X.setCell ⟨W.heap.size + 1, 0, none⟩ v).heap[D1]? = some (.deferred (some [])) := fun v => (KeepsOthers.setCell X _ v).same D1 _ hE rfl
                      have cP1 := X1.1.cell
                      gi_wp2_with fail
                      refine ⟨trivial, ?_⟩
                      refine (CallsIn.inRound lp (callsIn_wide.2 (hAt.out _))).mono ?_
                      rintro e w' ⟨rfl, rfl⟩
                      gi_wp2
                      exact ⟨(KeepsOthers.setCell _ _ _).from _, B2 _, ⟨by rw [List.length_append]; exact X1, K1 _⟩, B1 _⟩
                    · have hx' : (x : Int) ≠ (pre.length : Int) := by omega
                      gi_wp2_with fail
                      refine ⟨trivial, ?_⟩
                      gi_wp2
                      exact ⟨(KeepsOthers.setCell _ _ _).from _, rfl, pre, ⟨x, hxl⟩, rfl, hx⟩)
             case done2 =>
               rintro D2 ys X hD2 rfl ⟨⟨hX, hE1⟩, hB⟩ hE2
               rw [uptoF_length p _ (Nat.le_refl _)] at hX
               have cR := hX.2.2.1.cell
               have fR := hX.2.2.1.frozen
               have cK := hX.2.2.2.1.cell
               have cS := hX.2.2.2.2.1.cell
               have hR5 := hX.2.2.1.lt
               have hE1' : ((X.setCell ⟨w.heap.size + 1 + 1, 0, none⟩ (.bool true)).alloc (Obj.cells #[Value.int IntKind.i64 2] 3)).heap[D1]? = some (.deferred (some [])) := (KeepsOthers.alloc _ _).same D1 _ ((KeepsOthers.setCell X _ _).same D1 _ hE1 rfl) rfl
               have hE2' : ((X.setCell ⟨w.heap.size + 1 + 1, 0, none⟩ (.bool true)).alloc (Obj.cells #[Value.int IntKind.i64 2] 3)).heap[D2]? = some (.deferred (some [])) := (KeepsOthers.alloc _ _).same D2 _ ((KeepsOthers.setCell X _ _).same D2 _ hE2 rfl) rfl
               have hrr : Boxed ((X.setCell ⟨w.heap.size + 1 + 1, 0, none⟩ (.bool true)).alloc (Obj.cells #[Value.int IntKind.i64 2] 3)) (w.heap.size + 1 + 1) 4 (.bool true) := (hX.2.2.1.set _).alloc _
               have hBB : Below w.heap.size w ((X.setCell ⟨w.heap.size + 1 + 1, 0, none⟩ (.bool true)).alloc (Obj.cells #[Value.int IntKind.i64 2] 3)) := (hB.setCell (p := ⟨w.heap.size + 1 + 1, 0, none⟩) (Nat.le_add_right _ 2) _).alloc (Nat.le_trans hB.size (by simp)) _
               have hD12 : D1 ≠ D2 := by simp at hD2; omega
               have hwD : w.heap.size ≤ D1 := by simp at hD; omega
               have hwD2 : w.heap.size ≤ D2 := by simp at hD2; omega
               gi_wp2_with fail
               rw [roundsIn_succ]
               gi_wp2_with fail
               obtain ⟨Y, hY⟩ : ∃ Y, Y = (X.setCell ⟨w.heap.size + 1 + 1, 0, none⟩ (.bool true)).alloc (Obj.cells #[Value.int IntKind.i64 2] 3) := ⟨_, rfl⟩
               rw [← hY] at hE1' hE2' hrr hBB ⊢
               clear hY
               refine ⟨by simp, .inl ⟨_, _, rfl, run_takeDeferred hE2', ?_⟩⟩
               have hE3 : (Y.putObj D2 (.deferred none)).heap[D1]? = some (.deferred (some [])) := ((grownBy_putObj' Y D2 (.deferred none)).block D1 (Array.getElem?_eq_some_iff.1 hE1').1 (by simpa using hD12)).trans hE1'
               refine ⟨by simp, .inl ⟨_, _, rfl, run_takeDeferred hE3, ?_⟩⟩
               have hr6 : Boxed (Y.putObj D2 (.deferred none)) (w.heap.size + 1 + 1) 4 (.bool true) := boxed_own (w.heap.size + 1 + 1) _ (fun _ : Unit => _) () _ _ _ hrr (grownBy_putObj' Y D2 (.deferred none)) (fun r e => by cases e; exact ⟨_, hE2', rfl⟩)
               have hr7 : Boxed ((Y.putObj D2 (.deferred none)).putObj D1 (.deferred none)) (w.heap.size + 1 + 1) 4 (.bool true) := boxed_own (w.heap.size + 1 + 1) _ (fun _ : Unit => _) () _ _ _ hr6 (grownBy_putObj' _ D1 (.deferred none)) (fun r e => by cases e; exact ⟨_, hE3, rfl⟩)
               have hc7 := hr7.cell
               refine ⟨.bool true, ?_, rfl, ?_⟩
               · simp [results, Try.f6, go_sem, hc7]
               · exact (hBB.trans (belowK_b (w := w) (Nat.le_refl _) Y D2 _ _ hwD2 hE2' rfl rfl)).trans (belowK_b (w := w) (Nat.le_refl _) _ D1 _ _ hwD hE3 rfl rfl)
             case stop2 =>
               rintro D2 c pre X hD2 ⟨k2, hk2, rfl⟩ ⟨rfl, p0, x, h1, h2⟩ _
               exact (h2 (uptoF_last h1.symm)).elim)
  | true =>
    gi_wp2_with fail
    refine ⟨trivial, ?_⟩
    refine (callsIn_wide.2 (HL.out hr _)).mono ?_
    rintro e w' ⟨rfl, rfl⟩
    gi_wp2_with fail
    refine ⟨trivial, ?_⟩
    refine (callsIn_wide.2 (HA.out _)).mono ?_
    rintro e w' ⟨rfl, rfl⟩
    gi_wp2_with fail
    obtain ⟨w3, hw3⟩ : ∃ w3, w3 = (w2.alloc (Obj.cells #[Value.int IntKind.u64 p] 22)).alloc (Obj.cells #[Value.int IntKind.i64 0] 3) := ⟨_, rfl⟩
    have hs3 : w3.heap.size = w2.heap.size + 2 := by rw [hw3]; simp
    have B03 : Below w.heap.size w w3 := by rw [hw3]; exact (B02.alloc (by omega) _).alloc (by simp; omega) _
    have p3 : Boxed w3 w.heap.size 22 (.int .u64 p) := by rw [hw3]; exact (p2.alloc _).alloc _
    have l3 : Boxed w3 (w.heap.size + 1) 5 (.int .u8 l) := by rw [hw3]; exact (l2.alloc _).alloc _
    have r3 : Boxed w3 (w.heap.size + 1 + 1) 4 (.bool false) := by rw [hw3]; exact (r2.alloc _).alloc _
    have c3 : Boxed w3 w2.heap.size 22 (.int .u64 p) := by rw [hw3]; exact (Boxed.new _ _ _).alloc _
    have k3 : Boxed w3 (w2.heap.size + 1) 3 (.int .i64 0) := by
      have := Boxed.new (w2.alloc (Obj.cells #[Value.int IntKind.u64 p] 22)) 3 (.int .i64 0)
      rw [hw3]; rwa [World.size_alloc] at this
    rw [← hw3]
    clear hw3 p2 l2 r2 B02 pc
    have pc := p3.cell
    have kc := k3.cell
    have kf := k3.frozen
    refine wpIn_loop_rounds 3 ?_
    rw [roundsIn_succ]
    gi_wp2_with fail
    refine rangeG hro (by decide) (gf := 23) (lb := #[.pointer (some ⟨w2.heap.size, 0, none⟩)]) rfl trivial (enters_of Try.func23 (by kernel_rfl) rfl)
      (all_stops 5 (by decide) w2.heap.size (w2.heap.size + 1) p hp (w3.alloc (Obj.cells #[Value.int IntKind.i64 0] 3)) (by simp; omega) (by omega) ((c3.alloc _).cell)) belowK_t (belowK_b (by simp; omega)) (Below.refl _ _) (fun _ => rfl)
      (fun pre W => (Bxs w.heap.size w2.heap.size (w2.heap.size + 1) (w2.heap.size + 2) p l 0 pre.length W ∧ pre.length ≤ l) ∧ Below w.heap.size w W)
      (fun c pre W => ((c = .ret ∧ ∃ p0 x, pre = p0 ++ [x] ∧ x.1 ≠ p0.length) ∨ (c = .exit 2 ∧ pre.length = l + 1 ∧ Bxs w.heap.size w2.heap.size (w2.heap.size + 1) (w2.heap.size + 2) p l 0 pre.length W)) ∧ Below w.heap.size w W)
      ?own ?ownx ?start ?ab ?done ?stop
    case own => exact OwnFrom.and (Own.from (fun s X Y row hs hg hr => ⟨bxs_own _ _ _ _ _ _ _ s.length X Y row hs.1 hg hr, hs.2⟩) _) (ownFrom_below (Nat.le_refl _) (by simp; omega))
    case ownx => exact fun c => OwnFrom.and (Own.from (fun s X Y row hs hg hr => hs.imp id (fun h => ⟨h.1, h.2.1, bxs_own _ _ _ _ _ _ _ s.length X Y row h.2.2 hg hr⟩)) _) (ownFrom_below (Nat.le_refl _) (by simp; omega))
    case start => exact ⟨⟨⟨p3.alloc _, l3.alloc _, r3.alloc _, k3.alloc _, by have := Boxed.new w3 3 (.int .i64 0); rwa [hs3] at this, c3.alloc _⟩, Nat.zero_le _⟩, B03.alloc (by omega) _⟩
    case ab =>
      apply Exists.intro
      refine ⟨?assign, ?body⟩
      case assign =>
        intro l x W K hK
        gi_wp2
        exact hK
      case body =>
        rintro lp pre ⟨x, hxl⟩ W ⟨⟨hX, hpl⟩, hB⟩ hlen
        have cP := hX.1.cell
        have cL := hX.2.1.cell
        have fR := hX.2.2.1.frozen
        have cR := hX.2.2.1.cell
        have cK := hX.2.2.2.1.cell
        have cS := hX.2.2.2.2.1.cell
        have fS := hX.2.2.2.2.1.frozen
        have h15 := used_le p
        first
        | exact absurd hlen (by omega)
        | (by_cases hx : x = pre.length
           · subst hx
             obtain ⟨y, hy⟩ : ∃ y, y = nib p pre.length := ⟨_, rfl⟩
             have hAt : Hid (∀ w, Calls Try.prog 13 #[.int .u64 p, .int .i64 (pre.length : Int)] w fun e w' => e = .returned (.int .i64 y) ∧ w = w') := Lib.hid fun w => by rw [hy]; exact at_in p pre.length w hp (by omega)
             rw [← hy]
             have HY := Lib.hid hy
             clear hy
             have B1 : ∀ v, Below w.heap.size w (W.setCell ⟨w2.heap.size + 2, 0, none⟩ v) := fun v => hB.setCell (p := ⟨w2.heap.size + 2, 0, none⟩) (Nat.le_trans (Nat.le_add_right _ 3) (Nat.le_trans hsz (Nat.le_add_right _ 2))) _
             have X1 := hX.seen (by omega) (by omega) (by omega) (pre.length + 1) (pre.length + 1) rfl
             have B2 : ∀ v, Below (w2.heap.size + 1) W (W.setCell ⟨w2.heap.size + 2, 0, none⟩ v) := fun v => (Below.refl _ _).setCell (p := ⟨w2.heap.size + 2, 0, none⟩) (Nat.le_succ _) _
             have cP1 := X1.1.cell
             gi_wp2_with fail
             refine ⟨trivial, ?_⟩
             refine (CallsIn.inRound lp (callsIn_wide.2 (hAt.out _))).mono ?_
             rintro e w' ⟨rfl, rfl⟩
             by_cases hq : pre.length = l
             · have hq' : decide ((l : Int) < ((pre.length : Nat) : Int) + 1) = true := by simp; omega
               have hqH := Lib.hid hq
               clear hq
               gi_wp2
               exact ⟨(KeepsOthers.setCell _ _ _).from _, .inr ⟨rfl, by have := hqH.out; simp; omega, by rw [List.length_append]; exact X1⟩, B1 _⟩
             · have hq' : decide ((l : Int) < ((pre.length : Nat) : Int) + 1) = false := by simp; omega
               gi_wp2
               exact ⟨(KeepsOthers.setCell _ _ _).from _, B2 _, ⟨by rw [List.length_append]; exact X1, by simp; omega⟩, B1 _⟩
           · have hx' : (x : Int) ≠ (pre.length : Int) := by omega
             gi_wp2_with fail
             refine ⟨trivial, ?_⟩
             gi_wp2
             exact ⟨(KeepsOthers.setCell _ _ _).from _, .inl ⟨rfl, pre, ⟨x, hxl⟩, rfl, hx⟩, hB.setCell (p := ⟨w.heap.size + 1 + 1, 0, none⟩) (Nat.le_add_right _ 2) _⟩)
    case done =>
      rintro D1 ys W hD rfl ⟨⟨hX, hpl⟩, hB⟩ hK
      rw [uptoF_length p _ (Nat.le_refl _)] at hX hpl
      have hSz : w2.heap.size + 3 ≤ W.heap.size := by have := hX.2.2.2.2.1.lt; omega
      have cL := hX.2.1.cell
      have cK := hX.2.2.2.1.cell
      have cS := hX.2.2.2.2.1.cell
      have hm : ¬ ((l : Int) + 1 < ((used p : Nat) : Int)) := by omega
      gi_wp2_with fail
      rw [roundsIn_succ]
      obtain ⟨w5, hw5⟩ : ∃ w5, w5 = W.alloc (Obj.cells #[Value.int IntKind.i64 1] 3) := ⟨_, rfl⟩
      have hWs : w2.heap.size + 3 ≤ W.heap.size := hSz
      have hs5 : w5.heap.size = W.heap.size + 1 := by rw [hw5]; simp
      have B05 : Below w.heap.size w w5 := by rw [hw5]; exact hB.alloc (by omega) _
      have p5 : Boxed w5 w.heap.size 22 (.int .u64 p) := by rw [hw5]; exact hX.1.alloc _
      have l5 : Boxed w5 (w.heap.size + 1) 5 (.int .u8 l) := by rw [hw5]; exact hX.2.1.alloc _
      have r5 : Boxed w5 (w.heap.size + 1 + 1) 4 (.bool false) := by rw [hw5]; exact hX.2.2.1.alloc _
      have c5 : Boxed w5 w2.heap.size 22 (.int .u64 p) := by rw [hw5]; exact hX.2.2.2.2.2.alloc _
      have k5 : Boxed w5 W.heap.size 3 (.int .i64 1) := by rw [hw5]; exact Boxed.new _ _ _
      have d5 : w5.heap[D1]? = some (.deferred (some [])) := by rw [hw5]; exact (KeepsOthers.alloc W _).same D1 _ hK rfl
      have hD1 : D1 < w5.heap.size := (Array.getElem?_eq_some_iff.1 d5).1
      rw [← hw5]
      clear hw5 hX hK hB cL cK cS
      have cK := k5.cell
      gi_wp2_with fail
      refine rangeG hro (by decide) (gf := 23) (lb := #[.pointer (some ⟨w2.heap.size, 0, none⟩)]) rfl trivial (enters_of Try.func23 (by kernel_rfl) rfl)
        (all_stops 5 (by decide) w2.heap.size (w2.heap.size + 1) p hp (w5.alloc (Obj.cells #[Value.int IntKind.i64 0] 3)) (by simp; omega) (by omega) ((c5.alloc _).cell)) belowK_t (belowK_b (by simp; omega)) (Below.refl _ _) (fun _ => rfl)
        (fun pre X => (Bxs w.heap.size w2.heap.size W.heap.size (W.heap.size + 1) p l 1 pre.length X ∧ X.heap[D1]? = some (.deferred (some []))) ∧ Below w.heap.size w X)
        (fun c pre X => c = .ret ∧ ∃ p0 x, pre = p0 ++ [x] ∧ x.1 ≠ p0.length)
        ?own2 ?ownx2 ?start2 ?ab2 ?done2 ?stop2
      case own2 => exact OwnFrom.and (OwnFrom.and (Own.from (fun s X Y row hs hg hr => bxs_own _ _ _ _ _ _ _ s.length X Y row hs hg hr) _) (fun s X Y row hs hg hr => (hg.block D1 (Array.getElem?_eq_some_iff.1 hs).1 (fun e => by have := (hr D1 e.symm).1; simp at this; omega)).trans hs)) (ownFrom_below (Nat.le_refl _) (by simp; omega))
      case ownx2 => exact fun c => fun s X Y row hs hg hr => hs
      case start2 => exact ⟨⟨⟨p5.alloc _, l5.alloc _, r5.alloc _, k5.alloc _, by have := Boxed.new w5 3 (.int .i64 0); rwa [hs5] at this, c5.alloc _⟩, (KeepsOthers.alloc _ _).same D1 _ d5 rfl⟩, B05.alloc (by omega) _⟩
      case ab2 =>
        apply Exists.intro
        refine ⟨?assign2, ?body2⟩
        case assign2 =>
          intro l x W K hK
          gi_wp2
          exact hK
        case body2 =>
          rintro lp pre ⟨x, hxl⟩ X ⟨⟨hX, hE⟩, hB⟩ hlen
          have cP := hX.1.cell
          have cL := hX.2.1.cell
          have cR := hX.2.2.1.cell
          have fR := hX.2.2.1.frozen
          have cK := hX.2.2.2.1.cell
          have cS := hX.2.2.2.2.1.cell
          have fS := hX.2.2.2.2.1.frozen
          have h15 := used_le p
          first
          | exact absurd hlen (by omega)
          | (by_cases hx : x = pre.length
             · subst hx
               obtain ⟨y, hy⟩ : ∃ y, y = nib p pre.length := ⟨_, rfl⟩
               have hAt : Hid (∀ w, Calls Try.prog 13 #[.int .u64 p, .int .i64 (pre.length : Int)] w fun e w' => e = .returned (.int .i64 y) ∧ w = w') := Lib.hid fun w => by rw [hy]; exact at_in p pre.length w hp (by omega)
               rw [← hy]
               have HY := Lib.hid hy
               clear hy
               have B1 : ∀ v, Below w.heap.size w (X.setCell ⟨W.heap.size + 1, 0, none⟩ v) := fun v => hB.setCell (p := ⟨W.heap.size + 1, 0, none⟩) (Nat.le_trans (Nat.le_trans (Nat.le_add_right _ 3) hsz) (Nat.le_trans (Nat.le_trans (Nat.le_add_right _ 3) hWs) (Nat.le_add_right _ 1))) _
               have X1 := hX.seen (by omega) (by omega) (by omega) (pre.length + 1) (pre.length + 1) rfl
               have B2 : ∀ v, Below (w2.heap.size + 1) X (X.setCell ⟨W.heap.size + 1, 0, none⟩ v) := fun v => (Below.refl _ _).setCell (p := ⟨W.heap.size + 1, 0, none⟩) (Nat.le_trans (Nat.le_trans (Nat.le_add_right _ 2) hWs) (Nat.le_add_right _ 1)) _
               have K1 : ∀ v, (X.setCell ⟨W.heap.size + 1, 0, none⟩ v).heap[D1]? = some (.deferred (some [])) := fun v => (KeepsOthers.setCell X _ v).same D1 _ hE rfl
               have cP1 := X1.1.cell
               gi_wp2_with fail
               refine ⟨trivial, ?_⟩
               refine (CallsIn.inRound lp (callsIn_wide.2 (hAt.out _))).mono ?_
               rintro e w' ⟨rfl, rfl⟩
               gi_wp2
               exact ⟨(KeepsOthers.setCell _ _ _).from _, B2 _, ⟨by rw [List.length_append]; exact X1, K1 _⟩, B1 _⟩
             · have hx' : (x : Int) ≠ (pre.length : Int) := by omega
               gi_wp2_with fail
               refine ⟨trivial, ?_⟩
               gi_wp2
               exact ⟨(KeepsOthers.setCell _ _ _).from _, rfl, pre, ⟨x, hxl⟩, rfl, hx⟩)
      case done2 =>
        rintro D2 ys X hD2 rfl ⟨⟨hX, hE1⟩, hB⟩ hE2
        rw [uptoF_length p _ (Nat.le_refl _)] at hX
        have cR := hX.2.2.1.cell
        have fR := hX.2.2.1.frozen
        have cK := hX.2.2.2.1.cell
        have cS := hX.2.2.2.2.1.cell
        have hR5 := hX.2.2.1.lt
        have hE1' : ((X.setCell ⟨w.heap.size + 1 + 1, 0, none⟩ (.bool true)).alloc (Obj.cells #[Value.int IntKind.i64 2] 3)).heap[D1]? = some (.deferred (some [])) := (KeepsOthers.alloc _ _).same D1 _ ((KeepsOthers.setCell X _ _).same D1 _ hE1 rfl) rfl
        have hE2' : ((X.setCell ⟨w.heap.size + 1 + 1, 0, none⟩ (.bool true)).alloc (Obj.cells #[Value.int IntKind.i64 2] 3)).heap[D2]? = some (.deferred (some [])) := (KeepsOthers.alloc _ _).same D2 _ ((KeepsOthers.setCell X _ _).same D2 _ hE2 rfl) rfl
        have hrr : Boxed ((X.setCell ⟨w.heap.size + 1 + 1, 0, none⟩ (.bool true)).alloc (Obj.cells #[Value.int IntKind.i64 2] 3)) (w.heap.size + 1 + 1) 4 (.bool true) := (hX.2.2.1.set _).alloc _
        have hBB : Below w.heap.size w ((X.setCell ⟨w.heap.size + 1 + 1, 0, none⟩ (.bool true)).alloc (Obj.cells #[Value.int IntKind.i64 2] 3)) := (hB.setCell (p := ⟨w.heap.size + 1 + 1, 0, none⟩) (Nat.le_add_right _ 2) _).alloc (Nat.le_trans hB.size (by simp)) _
        have hD12 : D1 ≠ D2 := by simp at hD2; omega
        have hwD : w.heap.size ≤ D1 := by simp at hD; omega
        have hwD2 : w.heap.size ≤ D2 := by simp at hD2; omega
        gi_wp2_with fail
        rw [roundsIn_succ]
        gi_wp2_with fail
        obtain ⟨Y, hY⟩ : ∃ Y, Y = (X.setCell ⟨w.heap.size + 1 + 1, 0, none⟩ (.bool true)).alloc (Obj.cells #[Value.int IntKind.i64 2] 3) := ⟨_, rfl⟩
        rw [← hY] at hE1' hE2' hrr hBB ⊢
        clear hY
        refine ⟨by simp, .inl ⟨_, _, rfl, run_takeDeferred hE2', ?_⟩⟩
        have hE3 : (Y.putObj D2 (.deferred none)).heap[D1]? = some (.deferred (some [])) := ((grownBy_putObj' Y D2 (.deferred none)).block D1 (Array.getElem?_eq_some_iff.1 hE1').1 (by simpa using hD12)).trans hE1'
        refine ⟨by simp, .inl ⟨_, _, rfl, run_takeDeferred hE3, ?_⟩⟩
        have hr6 : Boxed (Y.putObj D2 (.deferred none)) (w.heap.size + 1 + 1) 4 (.bool true) := boxed_own (w.heap.size + 1 + 1) _ (fun _ : Unit => _) () _ _ _ hrr (grownBy_putObj' Y D2 (.deferred none)) (fun r e => by cases e; exact ⟨_, hE2', rfl⟩)
        have hr7 : Boxed ((Y.putObj D2 (.deferred none)).putObj D1 (.deferred none)) (w.heap.size + 1 + 1) 4 (.bool true) := boxed_own (w.heap.size + 1 + 1) _ (fun _ : Unit => _) () _ _ _ hr6 (grownBy_putObj' _ D1 (.deferred none)) (fun r e => by cases e; exact ⟨_, hE3, rfl⟩)
        have hc7 := hr7.cell
        refine ⟨.bool true, ?_, rfl, ?_⟩
        · simp [results, Try.f6, go_sem, hc7]
        · exact (hBB.trans (belowK_b (w := w) (Nat.le_refl _) Y D2 _ _ hwD2 hE2' rfl rfl)).trans (belowK_b (w := w) (Nat.le_refl _) _ D1 _ _ hwD hE3 rfl rfl)
      case stop2 =>
        rintro D2 c pre X hD2 ⟨k2, hk2, rfl⟩ ⟨rfl, p0, x, h1, h2⟩ _
        exact (h2 (uptoF_last h1.symm)).elim
    case stop =>
      rintro D1 c pre W hD ⟨k, hk, rfl⟩ ⟨⟨rfl, p0, x, h1, h2⟩ | ⟨rfl, hpl, hX⟩, hB⟩ hK
      · exact (h2 (uptoF_last h1.symm)).elim
      · first
        | exact absurd hk (by rw [uptoF_length p _ hk] at hpl; omega)
        | (rw [hpl] at hX
           rw [uptoF_length p _ hk] at hpl
           have hSz : w2.heap.size + 3 ≤ W.heap.size := by have := hX.2.2.2.2.1.lt; omega
           have cL := hX.2.1.cell
           have cK := hX.2.2.2.1.cell
           have cS := hX.2.2.2.2.1.cell
           rcases Nat.lt_or_ge (l + 1) (used p) with hlt | hge
           · have hm : (l : Int) + 1 < ((used p : Nat) : Int) := by omega
             gi_wp2_with fail
             rw [roundsIn_succ]
             obtain ⟨w5, hw5⟩ : ∃ w5, w5 = W.alloc (Obj.cells #[Value.int IntKind.i64 1] 3) := ⟨_, rfl⟩
             have hWs : w2.heap.size + 3 ≤ W.heap.size := hSz
             have hs5 : w5.heap.size = W.heap.size + 1 := by rw [hw5]; simp
             have B05 : Below w.heap.size w w5 := by rw [hw5]; exact hB.alloc (by omega) _
             have p5 : Boxed w5 w.heap.size 22 (.int .u64 p) := by rw [hw5]; exact hX.1.alloc _
             have l5 : Boxed w5 (w.heap.size + 1) 5 (.int .u8 l) := by rw [hw5]; exact hX.2.1.alloc _
             have r5 : Boxed w5 (w.heap.size + 1 + 1) 4 (.bool false) := by rw [hw5]; exact hX.2.2.1.alloc _
             have c5 : Boxed w5 w2.heap.size 22 (.int .u64 p) := by rw [hw5]; exact hX.2.2.2.2.2.alloc _
             have k5 : Boxed w5 W.heap.size 3 (.int .i64 1) := by rw [hw5]; exact Boxed.new _ _ _
             have d5 : w5.heap[D1]? = some (.deferred (some [])) := by rw [hw5]; exact (KeepsOthers.alloc W _).same D1 _ hK rfl
             have hD1 : D1 < w5.heap.size := (Array.getElem?_eq_some_iff.1 d5).1
             rw [← hw5]
             clear hw5 hX hK hB cL cK cS
             have cK := k5.cell
             gi_wp2_with fail
             refine rangeG hro (by decide) (gf := 23) (lb := #[.pointer (some ⟨w2.heap.size, 0, none⟩)]) rfl trivial (enters_of Try.func23 (by kernel_rfl) rfl)
               (all_stops 5 (by decide) w2.heap.size (w2.heap.size + 1) p hp (w5.alloc (Obj.cells #[Value.int IntKind.i64 0] 3)) (by simp; omega) (by omega) ((c5.alloc _).cell)) belowK_t (belowK_b (by simp; omega)) (Below.refl _ _) (fun _ => rfl)
               (fun pre X => (Bxs w.heap.size w2.heap.size W.heap.size (W.heap.size + 1) p l 1 pre.length X ∧ X.heap[D1]? = some (.deferred (some []))) ∧ Below w.heap.size w X)
               (fun c pre X => c = .ret ∧ ∃ p0 x, pre = p0 ++ [x] ∧ x.1 ≠ p0.length)
               ?own2 ?ownx2 ?start2 ?ab2 ?done2 ?stop2
             case own2 => exact OwnFrom.and (OwnFrom.and (Own.from (fun s X Y row hs hg hr => bxs_own _ _ _ _ _ _ _ s.length X Y row hs hg hr) _) (fun s X Y row hs hg hr => (hg.block D1 (Array.getElem?_eq_some_iff.1 hs).1 (fun e => by have := (hr D1 e.symm).1; simp at this; omega)).trans hs)) (ownFrom_below (Nat.le_refl _) (by simp; omega))
             case ownx2 => exact fun c => fun s X Y row hs hg hr => hs
             case start2 => exact ⟨⟨⟨p5.alloc _, l5.alloc _, r5.alloc _, k5.alloc _, by have := Boxed.new w5 3 (.int .i64 0); rwa [hs5] at this, c5.alloc _⟩, (KeepsOthers.alloc _ _).same D1 _ d5 rfl⟩, B05.alloc (by omega) _⟩
             case ab2 =>
               apply Exists.intro
               refine ⟨?assign2, ?body2⟩
               case assign2 =>
                 intro l x W K hK
                 gi_wp2
                 exact hK
               case body2 =>
                 rintro lp pre ⟨x, hxl⟩ X ⟨⟨hX, hE⟩, hB⟩ hlen
                 have cP := hX.1.cell
                 have cL := hX.2.1.cell
                 have cR := hX.2.2.1.cell
                 have fR := hX.2.2.1.frozen
                 have cK := hX.2.2.2.1.cell
                 have cS := hX.2.2.2.2.1.cell
                 have fS := hX.2.2.2.2.1.frozen
                 have h15 := used_le p
                 first
                 | exact absurd hlen (by omega)
                 | (by_cases hx : x = pre.length
                    · subst hx
                      obtain ⟨y, hy⟩ : ∃ y, y = nib p pre.length := ⟨_, rfl⟩
                      have hAt : Hid (∀ w, Calls Try.prog 13 #[.int .u64 p, .int .i64 (pre.length : Int)] w fun e w' => e = .returned (.int .i64 y) ∧ w = w') := Lib.hid fun w => by rw [hy]; exact at_in p pre.length w hp (by omega)
                      rw [← hy]
                      have HY := Lib.hid hy
                      clear hy
                      have B1 : ∀ v, Below w.heap.size w (X.setCell ⟨W.heap.size + 1, 0, none⟩ v) := fun v => hB.setCell (p := ⟨W.heap.size + 1, 0, none⟩) (Nat.le_trans (Nat.le_trans (Nat.le_add_right _ 3) hsz) (Nat.le_trans (Nat.le_trans (Nat.le_add_right _ 3) hWs) (Nat.le_add_right _ 1))) _
                      have X1 := hX.seen (by omega) (by omega) (by omega) (pre.length + 1) (pre.length + 1) rfl
                      have B2 : ∀ v, Below (w2.heap.size + 1) X (X.setCell ⟨W.heap.size + 1, 0, none⟩ v) := fun v => (Below.refl _ _).setCell (p := ⟨W.heap.size + 1, 0, none⟩) (Nat.le_trans (Nat.le_trans (Nat.le_add_right _ 2) hWs) (Nat.le_add_right _ 1)) _
                      have K1 : ∀ v, (X.setCell ⟨W.heap.size + 1, 0, none⟩ v).heap[D1]? = some (.deferred (some [])) := fun v => (KeepsOthers.setCell X _ v).same D1 _ hE rfl
                      have cP1 := X1.1.cell
                      gi_wp2_with fail
                      refine ⟨trivial, ?_⟩
                      refine (CallsIn.inRound lp (callsIn_wide.2 (hAt.out _))).mono ?_
                      rintro e w' ⟨rfl, rfl⟩
                      gi_wp2
                      exact ⟨(KeepsOthers.setCell _ _ _).from _, B2 _, ⟨by rw [List.length_append]; exact X1, K1 _⟩, B1 _⟩
                    · have hx' : (x : Int) ≠ (pre.length : Int) := by omega
                      gi_wp2_with fail
                      refine ⟨trivial, ?_⟩
                      gi_wp2
                      exact ⟨(KeepsOthers.setCell _ _ _).from _, rfl, pre, ⟨x, hxl⟩, rfl, hx⟩)
             case done2 =>
               rintro D2 ys X hD2 rfl ⟨⟨hX, hE1⟩, hB⟩ hE2
               rw [uptoF_length p _ (Nat.le_refl _)] at hX
               have cR := hX.2.2.1.cell
               have fR := hX.2.2.1.frozen
               have cK := hX.2.2.2.1.cell
               have cS := hX.2.2.2.2.1.cell
               have hR5 := hX.2.2.1.lt
               have hE1' : ((X.setCell ⟨w.heap.size + 1 + 1, 0, none⟩ (.bool true)).alloc (Obj.cells #[Value.int IntKind.i64 2] 3)).heap[D1]? = some (.deferred (some [])) := (KeepsOthers.alloc _ _).same D1 _ ((KeepsOthers.setCell X _ _).same D1 _ hE1 rfl) rfl
               have hE2' : ((X.setCell ⟨w.heap.size + 1 + 1, 0, none⟩ (.bool true)).alloc (Obj.cells #[Value.int IntKind.i64 2] 3)).heap[D2]? = some (.deferred (some [])) := (KeepsOthers.alloc _ _).same D2 _ ((KeepsOthers.setCell X _ _).same D2 _ hE2 rfl) rfl
               have hrr : Boxed ((X.setCell ⟨w.heap.size + 1 + 1, 0, none⟩ (.bool true)).alloc (Obj.cells #[Value.int IntKind.i64 2] 3)) (w.heap.size + 1 + 1) 4 (.bool true) := (hX.2.2.1.set _).alloc _
               have hBB : Below w.heap.size w ((X.setCell ⟨w.heap.size + 1 + 1, 0, none⟩ (.bool true)).alloc (Obj.cells #[Value.int IntKind.i64 2] 3)) := (hB.setCell (p := ⟨w.heap.size + 1 + 1, 0, none⟩) (Nat.le_add_right _ 2) _).alloc (Nat.le_trans hB.size (by simp)) _
               have hD12 : D1 ≠ D2 := by simp at hD2; omega
               have hwD : w.heap.size ≤ D1 := by simp at hD; omega
               have hwD2 : w.heap.size ≤ D2 := by simp at hD2; omega
               gi_wp2_with fail
               rw [roundsIn_succ]
               gi_wp2_with fail
               obtain ⟨Y, hY⟩ : ∃ Y, Y = (X.setCell ⟨w.heap.size + 1 + 1, 0, none⟩ (.bool true)).alloc (Obj.cells #[Value.int IntKind.i64 2] 3) := ⟨_, rfl⟩
               rw [← hY] at hE1' hE2' hrr hBB ⊢
               clear hY
               refine ⟨by simp, .inl ⟨_, _, rfl, run_takeDeferred hE2', ?_⟩⟩
               have hE3 : (Y.putObj D2 (.deferred none)).heap[D1]? = some (.deferred (some [])) := ((grownBy_putObj' Y D2 (.deferred none)).block D1 (Array.getElem?_eq_some_iff.1 hE1').1 (by simpa using hD12)).trans hE1'
               refine ⟨by simp, .inl ⟨_, _, rfl, run_takeDeferred hE3, ?_⟩⟩
               have hr6 : Boxed (Y.putObj D2 (.deferred none)) (w.heap.size + 1 + 1) 4 (.bool true) := boxed_own (w.heap.size + 1 + 1) _ (fun _ : Unit => _) () _ _ _ hrr (grownBy_putObj' Y D2 (.deferred none)) (fun r e => by cases e; exact ⟨_, hE2', rfl⟩)
               have hr7 : Boxed ((Y.putObj D2 (.deferred none)).putObj D1 (.deferred none)) (w.heap.size + 1 + 1) 4 (.bool true) := boxed_own (w.heap.size + 1 + 1) _ (fun _ : Unit => _) () _ _ _ hr6 (grownBy_putObj' _ D1 (.deferred none)) (fun r e => by cases e; exact ⟨_, hE3, rfl⟩)
               have hc7 := hr7.cell
               refine ⟨.bool true, ?_, rfl, ?_⟩
               · simp [results, Try.f6, go_sem, hc7]
               · exact (hBB.trans (belowK_b (w := w) (Nat.le_refl _) Y D2 _ _ hwD2 hE2' rfl rfl)).trans (belowK_b (w := w) (Nat.le_refl _) _ D1 _ _ hwD hE3 rfl rfl)
             case stop2 =>
               rintro D2 c pre X hD2 ⟨k2, hk2, rfl⟩ ⟨rfl, p0, x, h1, h2⟩ _
               exact (h2 (uptoF_last h1.symm)).elim
           · have hm : (l : Int) + 1 = ((used p : Nat) : Int) := by omega
             gi_wp2_with fail
             rw [roundsIn_succ]
             obtain ⟨w5, hw5⟩ : ∃ w5, w5 = W.alloc (Obj.cells #[Value.int IntKind.i64 1] 3) := ⟨_, rfl⟩
             have hWs : w2.heap.size + 3 ≤ W.heap.size := hSz
             have hs5 : w5.heap.size = W.heap.size + 1 := by rw [hw5]; simp
             have B05 : Below w.heap.size w w5 := by rw [hw5]; exact hB.alloc (by omega) _
             have p5 : Boxed w5 w.heap.size 22 (.int .u64 p) := by rw [hw5]; exact hX.1.alloc _
             have l5 : Boxed w5 (w.heap.size + 1) 5 (.int .u8 l) := by rw [hw5]; exact hX.2.1.alloc _
             have r5 : Boxed w5 (w.heap.size + 1 + 1) 4 (.bool false) := by rw [hw5]; exact hX.2.2.1.alloc _
             have c5 : Boxed w5 w2.heap.size 22 (.int .u64 p) := by rw [hw5]; exact hX.2.2.2.2.2.alloc _
             have k5 : Boxed w5 W.heap.size 3 (.int .i64 1) := by rw [hw5]; exact Boxed.new _ _ _
             have d5 : w5.heap[D1]? = some (.deferred (some [])) := by rw [hw5]; exact (KeepsOthers.alloc W _).same D1 _ hK rfl
             have hD1 : D1 < w5.heap.size := (Array.getElem?_eq_some_iff.1 d5).1
             rw [← hw5]
             clear hw5 hX hK hB cL cK cS
             have cK := k5.cell
             gi_wp2_with fail
             refine rangeG hro (by decide) (gf := 23) (lb := #[.pointer (some ⟨w2.heap.size, 0, none⟩)]) rfl trivial (enters_of Try.func23 (by kernel_rfl) rfl)
               (all_stops 5 (by decide) w2.heap.size (w2.heap.size + 1) p hp (w5.alloc (Obj.cells #[Value.int IntKind.i64 0] 3)) (by simp; omega) (by omega) ((c5.alloc _).cell)) belowK_t (belowK_b (by simp; omega)) (Below.refl _ _) (fun _ => rfl)
               (fun pre X => (Bxs w.heap.size w2.heap.size W.heap.size (W.heap.size + 1) p l 1 pre.length X ∧ X.heap[D1]? = some (.deferred (some []))) ∧ Below w.heap.size w X)
               (fun c pre X => c = .ret ∧ ∃ p0 x, pre = p0 ++ [x] ∧ x.1 ≠ p0.length)
               ?own2 ?ownx2 ?start2 ?ab2 ?done2 ?stop2
             case own2 => exact OwnFrom.and (OwnFrom.and (Own.from (fun s X Y row hs hg hr => bxs_own _ _ _ _ _ _ _ s.length X Y row hs hg hr) _) (fun s X Y row hs hg hr => (hg.block D1 (Array.getElem?_eq_some_iff.1 hs).1 (fun e => by have := (hr D1 e.symm).1; simp at this; omega)).trans hs)) (ownFrom_below (Nat.le_refl _) (by simp; omega))
             case ownx2 => exact fun c => fun s X Y row hs hg hr => hs
             case start2 => exact ⟨⟨⟨p5.alloc _, l5.alloc _, r5.alloc _, k5.alloc _, by have := Boxed.new w5 3 (.int .i64 0); rwa [hs5] at this, c5.alloc _⟩, (KeepsOthers.alloc _ _).same D1 _ d5 rfl⟩, B05.alloc (by omega) _⟩
             case ab2 =>
               apply Exists.intro
               refine ⟨?assign2, ?body2⟩
               case assign2 =>
                 intro l x W K hK
                 gi_wp2
                 exact hK
               case body2 =>
                 rintro lp pre ⟨x, hxl⟩ X ⟨⟨hX, hE⟩, hB⟩ hlen
                 have cP := hX.1.cell
                 have cL := hX.2.1.cell
                 have cR := hX.2.2.1.cell
                 have fR := hX.2.2.1.frozen
                 have cK := hX.2.2.2.1.cell
                 have cS := hX.2.2.2.2.1.cell
                 have fS := hX.2.2.2.2.1.frozen
                 have h15 := used_le p
                 first
                 | exact absurd hlen (by omega)
                 | (by_cases hx : x = pre.length
                    · subst hx
                      obtain ⟨y, hy⟩ : ∃ y, y = nib p pre.length := ⟨_, rfl⟩
                      have hAt : Hid (∀ w, Calls Try.prog 13 #[.int .u64 p, .int .i64 (pre.length : Int)] w fun e w' => e = .returned (.int .i64 y) ∧ w = w') := Lib.hid fun w => by rw [hy]; exact at_in p pre.length w hp (by omega)
                      rw [← hy]
                      have HY := Lib.hid hy
                      clear hy
                      have B1 : ∀ v, Below w.heap.size w (X.setCell ⟨W.heap.size + 1, 0, none⟩ v) := fun v => hB.setCell (p := ⟨W.heap.size + 1, 0, none⟩) (Nat.le_trans (Nat.le_trans (Nat.le_add_right _ 3) hsz) (Nat.le_trans (Nat.le_trans (Nat.le_add_right _ 3) hWs) (Nat.le_add_right _ 1))) _
                      have X1 := hX.seen (by omega) (by omega) (by omega) (pre.length + 1) (pre.length + 1) rfl
                      have B2 : ∀ v, Below (w2.heap.size + 1) X (X.setCell ⟨W.heap.size + 1, 0, none⟩ v) := fun v => (Below.refl _ _).setCell (p := ⟨W.heap.size + 1, 0, none⟩) (Nat.le_trans (Nat.le_trans (Nat.le_add_right _ 2) hWs) (Nat.le_add_right _ 1)) _
                      have K1 : ∀ v, (X.setCell ⟨W.heap.size + 1, 0, none⟩ v).heap[D1]? = some (.deferred (some [])) := fun v => (KeepsOthers.setCell X _ v).same D1 _ hE rfl
                      have cP1 := X1.1.cell
                      gi_wp2_with fail
                      refine ⟨trivial, ?_⟩
                      refine (CallsIn.inRound lp (callsIn_wide.2 (hAt.out _))).mono ?_
                      rintro e w' ⟨rfl, rfl⟩
                      gi_wp2
                      exact ⟨(KeepsOthers.setCell _ _ _).from _, B2 _, ⟨by rw [List.length_append]; exact X1, K1 _⟩, B1 _⟩
                    · have hx' : (x : Int) ≠ (pre.length : Int) := by omega
                      gi_wp2_with fail
                      refine ⟨trivial, ?_⟩
                      gi_wp2
                      exact ⟨(KeepsOthers.setCell _ _ _).from _, rfl, pre, ⟨x, hxl⟩, rfl, hx⟩)
             case done2 =>
               rintro D2 ys X hD2 rfl ⟨⟨hX, hE1⟩, hB⟩ hE2
               rw [uptoF_length p _ (Nat.le_refl _)] at hX
               have cR := hX.2.2.1.cell
               have fR := hX.2.2.1.frozen
               have cK := hX.2.2.2.1.cell
               have cS := hX.2.2.2.2.1.cell
               have hR5 := hX.2.2.1.lt
               have hE1' : ((X.setCell ⟨w.heap.size + 1 + 1, 0, none⟩ (.bool true)).alloc (Obj.cells #[Value.int IntKind.i64 2] 3)).heap[D1]? = some (.deferred (some [])) := (KeepsOthers.alloc _ _).same D1 _ ((KeepsOthers.setCell X _ _).same D1 _ hE1 rfl) rfl
               have hE2' : ((X.setCell ⟨w.heap.size + 1 + 1, 0, none⟩ (.bool true)).alloc (Obj.cells #[Value.int IntKind.i64 2] 3)).heap[D2]? = some (.deferred (some [])) := (KeepsOthers.alloc _ _).same D2 _ ((KeepsOthers.setCell X _ _).same D2 _ hE2 rfl) rfl
               have hrr : Boxed ((X.setCell ⟨w.heap.size + 1 + 1, 0, none⟩ (.bool true)).alloc (Obj.cells #[Value.int IntKind.i64 2] 3)) (w.heap.size + 1 + 1) 4 (.bool true) := (hX.2.2.1.set _).alloc _
               have hBB : Below w.heap.size w ((X.setCell ⟨w.heap.size + 1 + 1, 0, none⟩ (.bool true)).alloc (Obj.cells #[Value.int IntKind.i64 2] 3)) := (hB.setCell (p := ⟨w.heap.size + 1 + 1, 0, none⟩) (Nat.le_add_right _ 2) _).alloc (Nat.le_trans hB.size (by simp)) _
               have hD12 : D1 ≠ D2 := by simp at hD2; omega
               have hwD : w.heap.size ≤ D1 := by simp at hD; omega
               have hwD2 : w.heap.size ≤ D2 := by simp at hD2; omega
               gi_wp2_with fail
               rw [roundsIn_succ]
               gi_wp2_with fail
               obtain ⟨Y, hY⟩ : ∃ Y, Y = (X.setCell ⟨w.heap.size + 1 + 1, 0, none⟩ (.bool true)).alloc (Obj.cells #[Value.int IntKind.i64 2] 3) := ⟨_, rfl⟩
               rw [← hY] at hE1' hE2' hrr hBB ⊢
               clear hY
               refine ⟨by simp, .inl ⟨_, _, rfl, run_takeDeferred hE2', ?_⟩⟩
               have hE3 : (Y.putObj D2 (.deferred none)).heap[D1]? = some (.deferred (some [])) := ((grownBy_putObj' Y D2 (.deferred none)).block D1 (Array.getElem?_eq_some_iff.1 hE1').1 (by simpa using hD12)).trans hE1'
               refine ⟨by simp, .inl ⟨_, _, rfl, run_takeDeferred hE3, ?_⟩⟩
               have hr6 : Boxed (Y.putObj D2 (.deferred none)) (w.heap.size + 1 + 1) 4 (.bool true) := boxed_own (w.heap.size + 1 + 1) _ (fun _ : Unit => _) () _ _ _ hrr (grownBy_putObj' Y D2 (.deferred none)) (fun r e => by cases e; exact ⟨_, hE2', rfl⟩)
               have hr7 : Boxed ((Y.putObj D2 (.deferred none)).putObj D1 (.deferred none)) (w.heap.size + 1 + 1) 4 (.bool true) := boxed_own (w.heap.size + 1 + 1) _ (fun _ : Unit => _) () _ _ _ hr6 (grownBy_putObj' _ D1 (.deferred none)) (fun r e => by cases e; exact ⟨_, hE3, rfl⟩)
               have hc7 := hr7.cell
               refine ⟨.bool true, ?_, rfl, ?_⟩
               · simp [results, Try.f6, go_sem, hc7]
               · exact (hBB.trans (belowK_b (w := w) (Nat.le_refl _) Y D2 _ _ hwD2 hE2' rfl rfl)).trans (belowK_b (w := w) (Nat.le_refl _) _ D1 _ _ hwD hE3 rfl rfl)
             case stop2 =>
               rintro D2 c pre X hD2 ⟨k2, hk2, rfl⟩ ⟨rfl, p0, x, h1, h2⟩ _
               exact (h2 (uptoF_last h1.symm)).elim)

theorem permAll_walk (P i : Int) (wP : (Lit.int .u64 P).wf = true) (wi : (Lit.int .u8 i).wf = true) (w : World) :
    Calls Try.prog 6 #[.int .u64 P, .int .u8 i] w fun e w' => e = .returned (.bool true) ∧ Below w.heap.size w w' := by
  have hP := bounds_u64 wP
  have hi := bounds_u8 wi
  obtain ⟨p, rfl⟩ : ∃ p : Nat, P = p := ⟨P.toNat, by omega⟩
  obtain ⟨l, rfl⟩ : ∃ l : Nat, i = l := ⟨i.toNat, by omega⟩
  exact callsIn_wide.1 (permAll_in p l (by omega) (by omega) w)
end Go.Proofs.Ytffeegpjnibdnaa
