/- The B-link node's data; the walks of Covers, Full, Find, Right, takes, Kid. -/
import Derived.Test.YtjcpcgneghanfaaLKa
import Derived.Test.YtjcpcgneghanfaaLInS
import Derived.Test.YtjcpcgneghanfaaLInH
import Derived.Test.YtjcpcgneghanfaaLIcS
import Derived.Test.YtjcpcgneghanfaaLIcH
set_option linter.unusedVariables false
set_option linter.unusedSimpArgs false
namespace Go.Proofs.Ytjcpcgneghanfaa.LF
open Go.RowKit
set_option linter.unusedVariables false

abbrev gv (x : Int) : LV := .v (.int .u64 x)
abbrev sL (s : ByteArray) : List LV := [sv s]
theorem sL_len (s : ByteArray) : (sL s).length = 1 := rfl
structure HdV where
  s : Int
  g : Int
deriving DecidableEq
def hdL (h : HdV) : List LV := [iv h.s, gv h.g]
theorem hdL_len (h : HdV) : (hdL h).length = 2 := rfl
def noHd : HdV := ⟨0, 0⟩
structure NdV where
  leaf : Bool
  keys : List ByteArray
  vals : List ByteArray
  kids : List HdV
  high : ByteArray
  bounded : Bool
  next : HdV
deriving DecidableEq
def noNd : NdV := ⟨false, [], [], [], noBytes, false, noHd⟩
/-- A node's cells, its slices as they are. -/
def ndX (n : NdV) (X Y Z : LV) : List LV := [bv n.leaf, X, Y, Z, sv n.high, bv n.bounded, iv n.next.s, gv n.next.g]
def ndL (n : NdV) : List LV := ndX n (.sl .sh (n.keys.map sL)) (.sl .sh (n.vals.map sL)) (.sl .sh (n.kids.map hdL))
/-- Not too long. -/
structure NdV.ok (n : NdV) : Prop where
  keys : n.keys.length ≤ 100000
  vals : n.vals.length ≤ 100000
  kids : n.kids.length ≤ 100000

def coversN (n : NdV) (k : ByteArray) : Bool := !n.bounded || ltS k n.high
def cntK (l : List ByteArray) (k : ByteArray) : Nat := (l.takeWhile fun x => ltS x k).length
def hasK (l : List ByteArray) (k : ByteArray) : Bool := decide (l[cntK l k]? = some k)
def badK (n : NdV) (i : Nat) : Bool := (decide (0 < i) && !ltS (n.keys.getD (i - 1) noBytes) (n.keys.getD i noBytes)) || !coversN n (n.keys.getD i noBytes)
def rightN (n : NdV) : Bool := !(List.range n.keys.length).any (badK n) && (!(!n.bounded && !decide (n.high = noBytes)) &&
  (if n.leaf then (decide (n.vals.length = n.keys.length) && decide (n.kids.length = 0)) else (decide (n.vals.length = 0) && decide (n.kids.length = n.keys.length + 1))))

theorem lt_dec (a b : ByteArray) : decide (cmpS a b < 0) = ltS a b := by rw [Bool.eq_iff_iff, decide_eq_true_iff, cmpS_lt]
theorem ge_dec (a b : ByteArray) : decide (cmpS a b ≥ 0) = !ltS a b := by rw [Bool.eq_iff_iff, decide_eq_true_iff, cmpS_ge]; simp
theorem covers_F {G : Ctx} (hP : G.P = Try.prog) (n : NdV) (k : ByteArray) : LFun G 17 [.agg (ndL n), .one (sv k)] (.one (bv (coversN n k))) := LFun.of fun S => by
  have hD : TabOK G.P D := by rw [hP]; exact hD0
  have c1 := cmp_F hP k n.high
  refine LCalls.enter (fn := Try.f17) (by rw [hP]; exact Try.func17) rfl rfl ?_
  repeat (first | refine LOps.nil ?_ | refine andThen_normal ?_ | refine andThen_exit ?_ | refine andThen_ret ?_ | refine inBlock_normal ?_ | refine inBlock_ret ?_ | refine inBlock_here ?_ | refine inBlock_out rfl ?_ | refine LWp.seq ?_ | refine LWp.region ?_ | refine LWp.block ?_ | refine LWp.exit ?_ | refine LWp.ret ?_ | refine LWp.skip ?_ | refine LOps.valA ?_ | refine LOps.outA ?_ | refine LOps.whenA ?_ | refine LOps.pickA ?_ | refine LOps.storeA ?_)
  refine LOps.do (LDo.box rfl rfl) rfl rfl rfl ?_
  rintro _ _ ⟨b2, hb2, rfl, rfl⟩
  repeat (first | refine LOps.nil ?_ | refine andThen_normal ?_ | refine andThen_exit ?_ | refine andThen_ret ?_ | refine inBlock_normal ?_ | refine inBlock_ret ?_ | refine inBlock_here ?_ | refine inBlock_out rfl ?_ | refine LWp.seq ?_ | refine LWp.region ?_ | refine LWp.block ?_ | refine LWp.exit ?_ | refine LWp.ret ?_ | refine LWp.skip ?_ | refine LOps.val (LVal.call rfl rfl (by rw [hP]; exact Try.func38) rfl (by decide) (c1)) rfl rfl rfl ?_ | refine LOps.whenC (LVal.call rfl rfl (by rw [hP]; exact Try.func38) rfl (by decide) (c1)) ?_ | refine LOps.valA ?_ | refine LOps.outA ?_ | refine LOps.whenA ?_ | refine LOps.pickA ?_ | refine LOps.storeA ?_)
  exact ⟨_, LRes.one rfl, by rw [coversN, ← lt_dec]; rfl, .newBox (.refl _) hb2 _⟩
theorem full_F {G : Ctx} (hP : G.P = Try.prog) (n : NdV) : LFun G 18 [.agg (ndL n)] (.one (bv (decide ((n.keys.length : Int) > 4)))) := LFun.of fun S => by
  have hD : TabOK G.P D := by rw [hP]; exact hD0
  have hml : (n.keys.map sL).length = n.keys.length := List.length_map ..
  refine LCalls.enter (fn := Try.f18) (by rw [hP]; exact Try.func18) rfl rfl ?_
  repeat (first | refine LOps.nil ?_ | refine andThen_normal ?_ | refine andThen_exit ?_ | refine andThen_ret ?_ | refine inBlock_normal ?_ | refine inBlock_ret ?_ | refine inBlock_here ?_ | refine inBlock_out rfl ?_ | refine LWp.seq ?_ | refine LWp.region ?_ | refine LWp.block ?_ | refine LWp.exit ?_ | refine LWp.ret ?_ | refine LWp.skip ?_ | refine LOps.valA ?_ | refine LOps.outA ?_ | refine LOps.whenA ?_ | refine LOps.pickA ?_ | refine LOps.storeA ?_)
  refine LOps.do (LDo.box rfl rfl) rfl rfl rfl ?_
  rintro _ _ ⟨b1, hb1, rfl, rfl⟩
  repeat (first | refine LOps.nil ?_ | refine andThen_normal ?_ | refine andThen_exit ?_ | refine andThen_ret ?_ | refine inBlock_normal ?_ | refine inBlock_ret ?_ | refine inBlock_here ?_ | refine inBlock_out rfl ?_ | refine LWp.seq ?_ | refine LWp.region ?_ | refine LWp.block ?_ | refine LWp.exit ?_ | refine LWp.ret ?_ | refine LWp.skip ?_ | refine LOps.valA ?_ | refine LOps.outA ?_ | refine LOps.whenA ?_ | refine LOps.pickA ?_ | refine LOps.storeA ?_)
  exact ⟨_, LRes.one rfl, by rw [← hml]; rfl, .newBox (.refl _) hb1 _⟩

theorem cntK_le (l : List ByteArray) (k : ByteArray) : cntK l k ≤ l.length := (List.takeWhile_prefix _).length_le
theorem cntK_of : ∀ {l : List ByteArray} {k : ByteArray} {n : Nat} (hn : n ≤ l.length), (∀ (i : Nat) (hi : i < n), ltS (l[i]'(by omega)) k = true) → (∀ (h : n < l.length), ltS l[n] k = false) → cntK l k = n
  | [], k, n, hn, _, _ => by simp at hn; subst hn; rfl
  | p :: l, k, 0, hn, _, h2 => by
    have := h2 (by simp)
    simp only [List.getElem_cons_zero] at this
    simp [cntK, this]
  | p :: l, k, n + 1, hn, h1, h2 => by
    have h0 := h1 0 (by omega)
    simp only [List.getElem_cons_zero] at h0
    have ih := cntK_of (l := l) (k := k) (n := n) (by simpa using hn) (fun i hi => by
      have := h1 (i + 1) (by omega)
      simpa using this) (fun h => by
      have := h2 (by simpa using h)
      simpa using this)
    unfold cntK at ih ⊢
    simp [h0, ih]

set_option maxHeartbeats 4000000 in
theorem find_F {G : Ctx} (hP : G.P = Try.prog) (n : NdV) (hn : n.ok) (k : ByteArray) : LFun G 14 [.agg (ndL n), .one (sv k)] (.tup [.one (iv (cntK n.keys k : Nat)), .one (bv (hasK n.keys k))]) := LFun.of fun S => by
  have hD : TabOK G.P D := by rw [hP]; exact hD0
  have hml : (n.keys.map sL).length = n.keys.length := List.length_map ..
  have hkl := hn.keys
  haveI : Inhabited ByteArray := ⟨noBytes⟩
  refine LCalls.enter (fn := Try.f14) (by rw [hP]; exact Try.func14) rfl rfl ?_
  repeat (first | refine LOps.nil ?_ | refine andThen_normal ?_ | refine andThen_exit ?_ | refine andThen_ret ?_ | refine inBlock_normal ?_ | refine inBlock_ret ?_ | refine inBlock_here ?_ | refine inBlock_out rfl ?_ | refine LWp.seq ?_ | refine LWp.region ?_ | refine LWp.block ?_ | refine LWp.exit ?_ | refine LWp.ret ?_ | refine LWp.skip ?_ | refine LOps.valA ?_ | refine LOps.outA ?_ | refine LOps.whenA ?_ | refine LOps.pickA ?_ | refine LOps.storeA ?_)
  have hle := LS.le.refl S
  refine LOps.do (LDo.box rfl rfl) rfl rfl rfl ?_
  rintro _ _ ⟨b2, hb2, rfl, rfl⟩
  have s2 := hle.none hb2
  refine LOps.gen (fun S' => S.le S' ∧ S'.box b2 = some (ndL n)) ⟨hle.newBox hb2 _, box_new _ _ _⟩ ?_
  clear hle hb2 
  rintro S2 ⟨hle, k2⟩
  repeat (first | (refine LWp.seq (LWp.cut 1 (fun T' S' => S' = S2 ∧ ∃ (T'' : Nat → TV), T' = over T'' [(1, .one (sv k)), (2, ptr b2), (4, .one (iv (cntK n.keys k : Nat)))]) rfl ?_ ?_); rotate_left) | refine LOps.nil ?_ | refine andThen_normal ?_ | refine andThen_exit ?_ | refine andThen_ret ?_ | refine inBlock_normal ?_ | refine inBlock_ret ?_ | refine inBlock_here ?_ | refine inBlock_out rfl ?_ | refine LWp.seq ?_ | refine LWp.region ?_ | refine LWp.block ?_ | refine LWp.exit ?_ | refine LWp.ret ?_ | refine LWp.skip ?_ | refine LOps.valA ?_ | refine LOps.outA ?_ | refine LOps.whenA ?_ | refine LOps.pickA ?_ | refine LOps.storeA ?_)
  rotate_left
  · repeat (first | refine LOps.nil ?_ | refine andThen_normal ?_ | refine andThen_exit ?_ | refine andThen_ret ?_ | refine inBlock_normal ?_ | refine inBlock_ret ?_ | refine inBlock_here ?_ | refine inBlock_out rfl ?_ | refine LWp.seq ?_ | refine LWp.region ?_ | refine LWp.block ?_ | refine LWp.exit ?_ | refine LWp.ret ?_ | refine LWp.skip ?_ | refine LOps.valA ?_ | refine LOps.outA ?_ | refine LOps.whenA ?_ | refine LOps.pickA ?_ | refine LOps.storeA ?_)
    refine LWp.loop (fun m T S' => S' = S2 ∧ ∃ (T' : Nat → TV) (i : Nat), i ≤ n.keys.length ∧ m = n.keys.length - i ∧ (∀ (q : Nat) (hq : q < i) (hl : q < n.keys.length), ltS n.keys[q] k = true) ∧ T = over T' [(1, .one (sv k)), (2, ptr b2), (4, .one (iv (i : Nat)))]) n.keys.length ?_ ?_
    · exact ⟨rfl, _, 0, by omega, by omega, fun q hq => by omega, holds.over ⟨rfl, rfl, rfl, trivial⟩⟩
    rintro m T S' ⟨rfl, T', i, hi, rfl, hlo, rfl⟩
    have c1 := cmp_F hP (n.keys.getD i default) k
    repeat (first | refine LOps.whenC (LVal.call rfl rfl (by rw [hP]; exact Try.func38) rfl (by decide) c1) ?_ | refine LOps.nil ?_ | refine andThen_normal ?_ | refine andThen_exit ?_ | refine andThen_ret ?_ | refine inBlock_normal ?_ | refine inBlock_ret ?_ | refine inBlock_here ?_ | refine inBlock_out rfl ?_ | refine LWp.seq ?_ | refine LWp.region ?_ | refine LWp.block ?_ | refine LWp.exit ?_ | refine LWp.ret ?_ | refine LWp.skip ?_ | refine LOps.valA ?_ | refine LOps.outA ?_ | refine LOps.whenA ?_ | refine LOps.pickA ?_ | refine LOps.storeA ?_)
    refine LWp.cond rfl (fun h => ?_) (fun h => ?_)
    · have h : (decide ((i : Int) < ((n.keys.map sL).length : Int)) && decide (cmpS (n.keys.getD i default) k < 0)) = true := h
      rw [Bool.and_eq_true, decide_eq_true_iff, lt_dec] at h
      have hlt : i < n.keys.length := by omega
      have h2 := h.2
      rw [show n.keys.getD i default = n.keys[i] by rw [List.getD_eq_getElem?_getD, List.getElem?_eq_getElem hlt]; rfl] at h2
      repeat (first | refine LOps.nil ?_ | refine andThen_normal ?_ | refine andThen_exit ?_ | refine andThen_ret ?_ | refine inBlock_normal ?_ | refine inBlock_ret ?_ | refine inBlock_here ?_ | refine inBlock_out rfl ?_ | refine LWp.seq ?_ | refine LWp.region ?_ | refine LWp.block ?_ | refine LWp.exit ?_ | refine LWp.ret ?_ | refine LWp.skip ?_ | refine LOps.valA ?_ | refine LOps.outA ?_ | refine LOps.whenA ?_ | refine LOps.pickA ?_ | refine LOps.storeA ?_)
      refine ⟨n.keys.length - (i + 1), by omega, rfl, _, i + 1, by omega, rfl, fun q hq hl => ?_, holds.over ⟨rfl, rfl, rfl, trivial⟩⟩
      rcases Nat.lt_or_ge q i with h3 | h3
      · exact hlo q h3 hl
      · obtain rfl : q = i := by omega
        exact h2
    · have h : (decide ((i : Int) < ((n.keys.map sL).length : Int)) && decide (cmpS (n.keys.getD i default) k < 0)) = false := h
      rw [Bool.and_eq_false_iff, decide_eq_false_iff_not, lt_dec] at h
      have e : cntK n.keys k = i := cntK_of hi (fun q hq => hlo q hq (by omega)) fun hl => by
        rcases h with h | h
        · omega
        · rwa [show n.keys.getD i default = n.keys[i] by rw [List.getD_eq_getElem?_getD, List.getElem?_eq_getElem hl]; rfl] at h
      repeat (first | refine LOps.nil ?_ | refine andThen_normal ?_ | refine andThen_exit ?_ | refine andThen_ret ?_ | refine inBlock_normal ?_ | refine inBlock_ret ?_ | refine inBlock_here ?_ | refine inBlock_out rfl ?_ | refine LWp.seq ?_ | refine LWp.region ?_ | refine LWp.block ?_ | refine LWp.exit ?_ | refine LWp.ret ?_ | refine LWp.skip ?_ | refine LOps.valA ?_ | refine LOps.outA ?_ | refine LOps.whenA ?_ | refine LOps.pickA ?_ | refine LOps.storeA ?_)
      exact ⟨rfl, _, holds.over ⟨rfl, rfl, by rw [e]; rfl, trivial⟩⟩
  rintro _ S3 ⟨rfl, T3, rfl⟩
  have hle2 := cntK_le n.keys k
  repeat (first | refine LOps.nil ?_ | refine andThen_normal ?_ | refine andThen_exit ?_ | refine andThen_ret ?_ | refine inBlock_normal ?_ | refine inBlock_ret ?_ | refine inBlock_here ?_ | refine inBlock_out rfl ?_ | refine LWp.seq ?_ | refine LWp.region ?_ | refine LWp.block ?_ | refine LWp.exit ?_ | refine LWp.ret ?_ | refine LWp.skip ?_ | refine LOps.valA ?_ | refine LOps.outA ?_ | refine LOps.whenA ?_ | refine LOps.pickA ?_ | refine LOps.storeA ?_)
  refine LWp.drawL [0, 1, 2, 3, 4, 5, 6, 7, 8, 9, 10, 11, 12, 13, 14, 15, 16] (by rw [hP]; rfl) rfl ?_
  repeat (first | refine LRl.val (fun _ hS => LVal.load hD rfl rfl (hS.box _ _ k2 id) rfl rfl) rfl rfl rfl ?_ | refine LRl.nil ?_ | refine LRl.valA ?_ | refine LRl.outA ?_ | refine LRl.whenA ?_ | refine LRl.pickA ?_)
  repeat (first | refine LOps.nil ?_ | refine andThen_normal ?_ | refine andThen_exit ?_ | refine andThen_ret ?_ | refine inBlock_normal ?_ | refine inBlock_ret ?_ | refine inBlock_here ?_ | refine inBlock_out rfl ?_ | refine LWp.seq ?_ | refine LWp.region ?_ | refine LWp.block ?_ | refine LWp.exit ?_ | refine LWp.ret ?_ | refine LWp.skip ?_ | refine LOps.valA ?_ | refine LOps.outA ?_ | refine LOps.whenA ?_ | refine LOps.pickA ?_ | refine LOps.storeA ?_)
  refine ⟨_, LRes.two rfl, ?_, hle⟩
  show TV.tup [.one (iv (cntK n.keys k : Nat)), .one (bv (decide (((cntK n.keys k : Nat) : Int) < ((n.keys.map sL).length : Int)) && decide (n.keys.getD (cntK n.keys k) default = k)))] = _
  have e : (decide (((cntK n.keys k : Nat) : Int) < ((n.keys.map sL).length : Int)) && decide (n.keys.getD (cntK n.keys k) default = k)) = hasK n.keys k := by
    rw [hml]
    unfold hasK
    by_cases hlt : cntK n.keys k < n.keys.length
    · have e1 : n.keys.getD (cntK n.keys k) default = n.keys[cntK n.keys k] := by rw [List.getD_eq_getElem?_getD, List.getElem?_eq_getElem hlt]; rfl
      rw [Bool.eq_iff_iff, e1, Bool.and_eq_true, decide_eq_true_iff, decide_eq_true_iff, decide_eq_true_iff, List.getElem?_eq_getElem hlt, Option.some.injEq]
      exact ⟨fun h => h.2, fun h => ⟨by omega, h⟩⟩
    · rw [List.getElem?_eq_none (by omega), decide_eq_false (by omega)]; simp
  rw [e]
end Go.Proofs.Ytjcpcgneghanfaa.LF
