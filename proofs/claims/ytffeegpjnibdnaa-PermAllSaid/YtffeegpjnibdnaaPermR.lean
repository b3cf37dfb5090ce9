/- perm.All: a range over it: the contract of its function value. -/
import Derived.RangeFuncNested
import Derived.RangeFuncBound
import Derived.RangeFuncCalls
import Derived.RangeFuncLeaves
import Derived.Shelf.Abstract
import Derived.Shelf.RegionOpen
import Derived.WalkKit
import Derived.OwnWalkIn
import Derived.TacticsInMore
import Derived.LoopNIn
import Derived.LoopIn
import Derived.Test.YtffeegpjnibdnaaPermC
set_option linter.unusedVariables false
set_option linter.unusedSimpArgs false
namespace Go.Proofs.Ytffeegpjnibdnaa
open Go.RowKit Go.Shelf
attribute [local go_sem] Oper.semAt_some
set_option linter.unusedVariables false

/-- The law for a range over a function, the frame behind the assignment left open. -/
theorem rangeG {F : Fence} {n : Nat} {P : Program} {w : World} {α : Type} {g : Operand} {ps : Array Tmp} {assign body : Code} {Q : Exit → Act → World → Prop} {a : Act}
    (hro : F.round = none) (h1 : 1 ≤ n) {gf : Nat} {lb : Array Value} (hg : a.eval g = .func (.func gf) #[] lb) (hFg : F.fn gf) (eg : ∀ args w, (callFunc gf args).run P w = .ok (.enter gf args) w)
    {encs : α → Array Value} {Kp : World → World → Prop} {S Sp : List α → Prop} {N : Nat} {w0 : World} (hseq : SeqStopsK F (n - 1) P gf lb encs Kp S Sp N w0)
    (hKt : ∀ {A B C : World}, Kp A B → Kp B C → Kp A C) (hKb : ∀ (W : World) (l : Nat) (o o' : Obj), w.heap.size ≤ l → W.heap[l]? = some o → o.isCells = false → o.isWalk = false → Kp W (W.putObj l o')) (hb0 : Below w0.heap.size w0 w) (hps : ∀ x, (encs x).size = ps.size)
    (I : List α → World → Prop) (Ix : Code → List α → World → Prop) (hI : OwnFrom w.heap.size I) (hIx : ∀ c, OwnFrom w.heap.size (Ix c)) (h0 : I [] w)
    (hab : ∃ a₁ : α → Act, (∀ (l : Nat) (x : α) (W : World) (K : Act → World → Prop), K (a₁ x) W →
        assign.wpIn (F.inRound l) (n - 1 - 1) P (Exit.then K (fun _ _ _ => False)) { tmps := (ps.zip (encs x)).foldl (fun t (p, v) => t.setIfInBounds p v) a.tmps, defers := [] } W) ∧
      (∀ (l : Nat) (pre : List α) (x : α) (W : World), I pre W → pre.length < N → body.wpIn (F.inRound l) (n - 1 - 1) P (ownPostG w.heap.size Kp I Ix (pre ++ [x]) W) (a₁ x) W))
    (hdone : ∀ (D : Nat) (xs : List α) (W : World), w.heap.size ≤ D → S xs → I xs W → W.heap[D]? = some (.deferred (some [])) → Q .normal { a with defers := { target := .collected D, args := #[] } :: a.defers } W)
    (hstop : ∀ (D : Nat) (c : Code) (pre : List α) (W : World), w.heap.size ≤ D → Sp pre → Ix c pre W → W.heap[D]? = some (.deferred (some [])) → c.wpIn F n P Q { a with defers := { target := .collected D, args := #[] } :: a.defers } W) :
    (Code.rangeFunc g ps assign body).wpIn F n P Q a w := by
  obtain ⟨a₁, ha, hb⟩ := hab
  exact wpIn_rangeFunc_ownG hro h1 hg hFg eg hseq hKt hKb hb0 hps I Ix hI hIx h0 a₁ ha hb hdone hstop

/-- How many rounds there are. -/
def used (p : Nat) : Nat := if rt (slots p) then p % 16 else 0

theorem all_any (p : Nat) (w : World) :
    Calls Try.prog 17 #[.int .u64 p] w fun e w' => e = .returned (.func (.func 23) #[] #[.pointer (some ⟨w.heap.size, 0, none⟩)]) ∧ w.alloc (.cells #[.int .u64 p] 22) = w' := by
  go_enter Try.func17, Try.ntmps17
  go_wp2
  go_ret
  exact ⟨rfl, rfl⟩

/-- The ranks in use. -/
def uptoF (p k : Nat) : List (Fin (used p)) := (List.finRange (used p)).take k
theorem uptoF_succ (p k : Nat) (h : k < used p) : uptoF p (k + 1) = uptoF p k ++ [⟨k, h⟩] := by
  unfold uptoF
  rw [List.take_add_one, List.getElem?_eq_getElem (by simpa using h)]
  simp
theorem uptoF_length (p k : Nat) (h : k ≤ used p) : (uptoF p k).length = k := by simp [uptoF]; omega
theorem uptoF_last {p k : Nat} {pre : List (Fin (used p))} {x : Fin (used p)} (h : pre ++ [x] = uptoF p k) : x.1 = pre.length := by
  have h1 : (pre ++ [x])[pre.length]? = some x := by simp
  rw [h] at h1
  unfold uptoF at h1
  rw [List.getElem?_take] at h1
  split at h1
  · obtain ⟨h2, h3⟩ := List.getElem?_eq_some_iff.1 h1
    rw [← h3]; simp
  · cases h1
theorem used_le (p : Nat) : used p ≤ 15 := by unfold used; split <;> omega

set_option maxRecDepth 100000 in
set_option maxHeartbeats 2000000 in
theorem all1_in (n : Nat) (hn : 1 ≤ n) (l B n₀ p : Nat) (hp : p < 18446744073709551616) (hB : B < n₀) (J Jx : Nat → World → Prop)
    (hY : ∀ k W, J k W → k < used p → YieldAt Fence.wide (n - 1) Try.prog l #[.int .i64 (k : Int), .int .i64 (nib p k : Int)] W fun e W' =>
      (e = .returned (.bool true) ∧ J (k + 1) W' ∧ Below n₀ W W') ∨ (e = .returned (.bool false) ∧ Jx (k + 1) W'))
    (W : World) (hBs : W.cell? ⟨B, 0, none⟩ = some (.int .u64 p)) (h0 : J 0 W) :
    CallsIn Fence.wide n Try.prog 23 #[.func (.yield l) #[] #[], .pointer (some ⟨B, 0, none⟩)] W fun e W' => (∃ v, e = .returned v) ∧
      (J (used p) W' ∨ ∃ k, k ≤ used p ∧ Jx k W') := by
  have HR := Lib.hid (fun w => right_any p w hp)
  obtain ⟨c, hc⟩ : ∃ c, c = p % 16 := ⟨_, rfl⟩
  have HL : Hid (∀ w, Calls Try.prog 15 #[.int .u64 p] w fun e w' => e = .returned (.int .i64 c) ∧ w = w') := Lib.hid fun w => by rw [hc]; exact len_any p w hp
  have hc16 : c < 16 := by omega
  unfold used at hY ⊢
  rw [← hc] at hY ⊢
  have HP := Lib.hid hp
  clear hc hp
  have hro : Fence.wide.round = none := rfl
  refine callsIn_of_wp Try.func23 rfl trivial ?_ hro
  simp only [Try.ntmps23, List.size_toArray, List.length_cons, List.length_nil, Nat.reduceAdd, Nat.reduceSub, Array.replicate_succ, Array.replicate_zero, List.push_toArray, List.append_toArray, List.nil_append, List.cons_append]
  cases hr : rt (slots p) with
  | false =>
    rw [hr] at HR
    gi_wp2_with fail
    refine ⟨trivial, ?_⟩
    refine (callsIn_wide.2 (HR.out _)).mono ?_
    rintro e w' ⟨rfl, rfl⟩
    gi_wp2
    refine bodyPost_ret (results_none rfl _ _ _) rfl ?_
    exact ⟨⟨_, rfl⟩, .inl h0⟩
  | true =>
    rw [hr] at HR hY
    simp only [if_true] at hY ⊢
    have HY := Lib.hid hY
    clear hY hr
    gi_wp2_with fail
    refine ⟨trivial, ?_⟩
    refine (callsIn_wide.2 (HR.out _)).mono ?_
    rintro e w' ⟨rfl, rfl⟩
    gi_wp2_with fail
    refine ⟨trivial, ?_⟩
    refine (callsIn_wide.2 (HL.out _)).mono ?_
    rintro e w' ⟨rfl, rfl⟩
    gi_wp2_with fail
    gi_loopw [3, 9] (fun _ i wr => ∃ k : Nat, k ≤ c ∧ i = .int .i64 k ∧ J k wr ∧ Below n₀ W wr) (fun _ i _ => c - (intOf i).toNat)
    case atStart => exact ⟨0, Nat.zero_le _, rfl, h0, Below.refl _ _⟩
    case round =>
      obtain ⟨k, hk, rfl, hJs, hnx⟩ := hrel
      have hcx : wr.cell? ⟨B, 0, none⟩ = some (.int .u64 p) := (hnx.cell (p := ⟨B, 0, none⟩) hB).trans hBs
      by_cases hlt : k < c
      · obtain ⟨x, hx⟩ : ∃ x, x = nib p k := ⟨_, rfl⟩
        have HA : Hid (∀ w, Calls Try.prog 13 #[.int .u64 p, .int .i64 k] w fun e w' => e = .returned (.int .i64 x) ∧ w = w') := Lib.hid fun w => by rw [hx]; exact at_in p k w HP.out (by omega)
        obtain ⟨fn, tmps, assign, body, hy, hR⟩ := HY.out _ wr hJs hlt
        rw [← hx] at hy
        clear hx
        gi_wp2_with fail
        refine ⟨trivial, ?_⟩
        refine (callsIn_wide.2 (HA.out _)).mono ?_
        rintro e w' ⟨rfl, rfl⟩
        gi_wp2
        refine hR.mono ?_
        rintro e W3 (⟨rfl, hJ3, hk3⟩ | ⟨rfl, hJx3⟩)
        · gi_wp2
          go_roundw
          case rel => exact ⟨k + 1, by omega, by go_num, hJ3, hnx.trans hk3⟩
          case measure => simp [intOf]; omega
        · gi_wp2
          refine bodyPost_ret (results_none rfl _ _ _) rfl ?_
          exact ⟨⟨_, rfl⟩, .inr ⟨k + 1, by omega, hJx3⟩⟩
      · obtain rfl : k = c := by omega
        gi_wp2
        go_end0
        exact ⟨⟨_, rfl⟩, .inl hJs⟩

/-- **perm.All(p)'s value**: each rank in use, rising, with its slot; or a first part of these. -/
theorem all_stops (n : Nat) (hn : 1 ≤ n) (B n₀ p : Nat) (hp : p < 18446744073709551616) (w : World) (hBs : B < w.heap.size) (hBn : B < n₀)
    (hc : w.cell? ⟨B, 0, none⟩ = some (.int .u64 p)) :
    SeqStopsK Fence.wide n Try.prog 23 #[.pointer (some ⟨B, 0, none⟩)] (fun x : Fin (used p) => #[Value.int .i64 (x.1 : Int), Value.int .i64 (nib p x.1 : Int)]) (Below n₀) (fun ys => ys = uptoF p (used p))
      (fun pre => ∃ k, k ≤ used p ∧ pre = uptoF p k) (used p) w := fun l J Jx W hW _ _ hY h0 => by
  refine (all1_in n hn l B n₀ p hp hBn (fun k W => J (uptoF p k) W) (fun k W => Jx (uptoF p k) W) (fun k W hJ hk => ?_) W ((hW.cell (p := ⟨B, 0, none⟩) hBs).trans hc) h0).mono ?_
  · have := hY (uptoF p k) ⟨k, hk⟩ W hJ (by rw [uptoF_length p k (by omega)]; exact hk)
    rw [← uptoF_succ p k hk] at this
    exact this
  · rintro e W' ⟨he, h | ⟨k, hk, h⟩⟩
    · exact ⟨he, .inl ⟨_, rfl, h⟩⟩
    · exact ⟨he, .inr ⟨_, ⟨k, hk, rfl⟩, h⟩⟩
end Go.Proofs.Ytffeegpjnibdnaa
