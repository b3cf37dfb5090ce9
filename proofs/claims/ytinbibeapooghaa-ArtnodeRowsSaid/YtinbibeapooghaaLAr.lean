/- The document's node: places for each byte: New, Set, Get, Drop, From. (Printed by gen_ar.py.) -/
import Derived.Test.YtinbibeapooghaaLAcI
import Derived.Test.YtinbibeapooghaaLAn
set_option linter.unusedVariables false
set_option linter.unusedSimpArgs false
namespace Go.Proofs.Ytinbibeapooghaa.LF
open Go.RowKit
set_option linter.unusedVariables false
attribute [local irreducible] andThen inBlock LWp LOps LCalls

def rfL (hs : List Bool) (kd : List Int) (n k : Nat) : List LV := hs.map (fun u => bv u) ++ (kd.map (fun x => iv x) ++ [iv (n : Nat), iv (k : Nat)])
structure RfOK (hs : List Bool) (kd : List Int) (l : Kv Int) : Prop where
  hh : hs.length = 256
  hk : kd.length = 256
  has : ∀ b : Nat, b < 256 → hs[b]? = some (hasK l b)
  kid : ∀ (b : Nat) (x : Int), b < 256 → lk l b = some x → kd[b]? = some x
  ks : KS l
/-- The document's node in a box. -/
def Rf (S : LS) (w k : Nat) (l : Kv Int) : Prop := ∃ hs kd, S.box w = some (rfL hs kd l.length k) ∧ RfOK hs kd l
theorem RfOK.empty : RfOK (List.replicate 256 false) (List.replicate 256 0) [] :=
  ⟨List.length_replicate, List.length_replicate, fun b hb => by rw [List.getElem?_replicate, if_pos hb]; rfl, (fun b x _ h => by cases h), .nil⟩
theorem RfOK.over {hs : List Bool} {kd : List Int} {l : Kv Int} (h : RfOK hs kd l) {c : Nat} (hc : c < 256) (x : Int) : RfOK (hs.set c true) (kd.set c x) (setL l c x) := by
  refine ⟨by rw [List.length_set]; exact h.hh, by rw [List.length_set]; exact h.hk, fun b hb => ?_, fun b y hb hy => ?_, h.ks.set hc x⟩
  · rw [hasK, lk_set]
    by_cases e : b = c
    · subst e; rw [List.getElem?_set_self (by rw [h.hh]; exact hb), if_pos rfl]; rfl
    · rw [List.getElem?_set_ne fun e2 => e e2.symm, if_neg e]; exact h.has b hb
  · rw [lk_set] at hy
    by_cases e : b = c
    · subst e
      rw [if_pos rfl] at hy
      rw [List.getElem?_set_self (by rw [h.hk]; exact hb)]; exact hy
    · rw [if_neg e] at hy
      rw [List.getElem?_set_ne fun e2 => e e2.symm]; exact h.kid b y hb hy
theorem RfOK.set_same {hs : List Bool} {kd : List Int} {l : Kv Int} (h : RfOK hs kd l) {c : Nat} (hc : c < 256) (hk : hasK l c = true) : hs.set c true = hs := by
  apply List.ext_getElem?
  intro j
  rw [List.getElem?_set]
  split
  · rename_i e; subst e
    rw [h.has c hc, hk, if_pos (by rw [h.hh]; exact hc)]
  · rfl
theorem RfOK.off {hs : List Bool} {kd : List Int} {l : Kv Int} (h : RfOK hs kd l) {c : Nat} (hc : c < 256) : RfOK (hs.set c false) kd (delL l c) := by
  refine ⟨by rw [List.length_set]; exact h.hh, h.hk, fun b hb => ?_, fun b y hb hy => ?_, h.ks.del⟩
  · rw [hasK, lk_del h.ks]
    by_cases e : b = c
    · subst e; rw [List.getElem?_set_self (by rw [h.hh]; exact hb), if_pos rfl]; rfl
    · rw [List.getElem?_set_ne fun e2 => e e2.symm, if_neg e]; exact h.has b hb
  · rw [lk_del h.ks] at hy
    by_cases e : b = c
    · rw [if_pos e] at hy; cases hy
    · rw [if_neg e] at hy; exact h.kid b y hb hy

section
variable {hs : List Bool} {kd : List Int} {n k : Nat}
theorem rf_len (hh : hs.length = 256) (hk : kd.length = 256) : (rfL hs kd n k).length = 514 := by simp [rfL, hh, hk]
theorem rf_has (hh : hs.length = 256) {b : Nat} {u : Bool} (e : hs[b]? = some u) : (rfL hs kd n k)[b]? = some (bv u) := at_first (at_map e)
theorem rf_kid (hh : hs.length = 256) {b : Nat} {x : Int} (e : kd[b]? = some x) : (rfL hs kd n k)[256 + b]? = some (iv x) := at_then (by rw [List.length_map]; exact hh) (at_first (at_map e))
theorem rf_n (hh : hs.length = 256) (hk : kd.length = 256) : (rfL hs kd n k)[512]? = some (iv (n : Nat)) := by
  rw [show (512 : Nat) = 256 + (256 + 0) from rfl]
  exact at_then (by rw [List.length_map]; exact hh) (at_then (by rw [List.length_map]; exact hk) rfl)
theorem rf_k (hh : hs.length = 256) (hk : kd.length = 256) : (rfL hs kd n k)[513]? = some (iv (k : Nat)) := by
  rw [show (513 : Nat) = 256 + (256 + 1) from rfl]
  exact at_then (by rw [List.length_map]; exact hh) (at_then (by rw [List.length_map]; exact hk) rfl)
theorem rf_shas (hh : hs.length = 256) {b : Nat} (hb : b < 256) (u : Bool) : splice (rfL hs kd n k) b [bv u] = rfL (hs.set b u) kd n k := by
  rw [rfL, set_first (by rw [List.length_map, hh]; exact hb), rfL, List.map_set]
theorem rf_skid (hh : hs.length = 256) (hk : kd.length = 256) {b : Nat} (hb : b < 256) (x : Int) : splice (rfL hs kd n k) (256 + b) [iv x] = rfL hs (kd.set b x) n k := by
  rw [rfL, set_then (by rw [List.length_map]; exact hh) (by rw [List.length_append, List.length_map, hk]; omega), List.set_append_left _ _ (by rw [List.length_map, hk]; exact hb), rfL, List.map_set]
theorem rf_sn (hh : hs.length = 256) (hk : kd.length = 256) (m : Nat) : splice (rfL hs kd n k) 512 [iv (m : Nat)] = rfL hs kd m k := by
  rw [show (512 : Nat) = 256 + 256 from rfl, rfL, set_then (by rw [List.length_map]; exact hh) (by rw [List.length_append, List.length_map, hk]; simp), List.set_append_right _ _ (by rw [List.length_map, hk]; decide), List.length_map, hk]
  rfl
theorem rf_sk (hh : hs.length = 256) (hk : kd.length = 256) (m : Nat) : splice (rfL hs kd n k) 513 [iv (m : Nat)] = rfL hs kd n m := by
  rw [show (513 : Nat) = 256 + 257 from rfl, rfL, set_then (by rw [List.length_map]; exact hh) (by rw [List.length_append, List.length_map, hk]; simp), List.set_append_right _ _ (by rw [List.length_map, hk]; decide), List.length_map, hk]
  rfl
end
theorem rf_wrap8 {n : Nat} (h : n < 256) : IntKind.u8.wrap ((n : Nat) : Int) = ((n : Nat) : Int) := by rw [IntKind.wrap_u8]; omega
def rfFs : Array Field := match ti63.desc with
  | .struct fs => fs
  | _ => #[]
theorem zeroRf : (lfill (fieldPlace? D rfFs.toList) (lzero ti63) [(3, [iv 4])]) = some (rfL (List.replicate 256 false) (List.replicate 256 0) 0 4) := by kernel_rfl
theorem okRf : ti63.zero.cells.toList.all Value.oneCell' = true := by kernel_rfl

set_option maxHeartbeats 2000000 in
theorem rnew_L {G : Ctx} (hP : G.P = Try.prog) (S : LS) : LCalls G 10 [] (fun r S' => ∃ w, r = ptr w ∧ S.le S' ∧ S.box w = none ∧ Rf S' w 4 []) S := by
  have hD : TabOK G.P D := by rw [hP]; exact hD0
  refine LCalls.enter (fn := Try.f10) (by rw [hP]; exact Try.func10) rfl rfl ?_
  repeat (first | refine LOps.val (LVal.build (lp := [(3, [iv 4])]) (fs := rfFs) hD rfl rfl rfl rfl okRf rfl zeroRf) rfl rfl rfl ?_ | refine LOps.nil ?_ | refine andThen_normal ?_ | refine andThen_exit ?_ | refine andThen_ret ?_ | refine inBlock_normal ?_ | refine inBlock_ret ?_ | refine inBlock_here ?_ | refine inBlock_out rfl ?_ | refine LWp.seq ?_ | refine LWp.region ?_ | refine LWp.block ?_ | refine LWp.exit ?_ | refine LWp.ret ?_ | refine LWp.skip ?_ | refine LOps.valA ?_ | refine LOps.outA ?_ | refine LOps.whenA ?_ | refine LOps.pickA ?_ | refine LOps.storeA ?_)
  have hle := LS.le.refl S
  refine LOps.do (LDo.box rfl rfl) rfl rfl rfl ?_
  rintro _ _ ⟨b2, hb2, rfl, rfl⟩
  have s2 := hle.none hb2
  refine LOps.gen (fun S' => S.le S' ∧ S'.box b2 = some (rfL (List.replicate 256 false) (List.replicate 256 0) 0 4)) ⟨hle.newBox hb2 _, box_new _ _ _⟩ ?_
  clear hle hb2 
  rintro S2 ⟨hle, k2⟩
  repeat (first | refine LOps.nil ?_ | refine andThen_normal ?_ | refine andThen_exit ?_ | refine andThen_ret ?_ | refine inBlock_normal ?_ | refine inBlock_ret ?_ | refine inBlock_here ?_ | refine inBlock_out rfl ?_ | refine LWp.seq ?_ | refine LWp.region ?_ | refine LWp.block ?_ | refine LWp.exit ?_ | refine LWp.ret ?_ | refine LWp.skip ?_ | refine LOps.valA ?_ | refine LOps.outA ?_ | refine LOps.whenA ?_ | refine LOps.pickA ?_ | refine LOps.storeA ?_)
  exact ⟨_, LRes.one rfl, b2, rfl, hle, s2, _, _, k2, .empty⟩

set_option maxHeartbeats 2000000 in
theorem rget_L {G : Ctx} (hP : G.P = Try.prog) {S : LS} {w k : Nat} {l : Kv Int} (h : Rf S w k l) {c : Nat} (hc : c < 256) : LCalls G 31 [ptr w, .one (uv (c : Nat))] (fun r S' => r = getI l c ∧ S' = S) S := by
  have hD : TabOK G.P D := by rw [hP]; exact hD0
  obtain ⟨hs, kd, hb, h⟩ := h
  have hh := h.hh
  have hk := h.hk
  have hu := h.has c hc
  refine LCalls.enter (fn := Try.f31) (by rw [hP]; exact Try.func31) rfl rfl ?_
  cases hq : hasK l c with
  | false =>
    rw [hq] at hu
    have hn : lk l c = none := by simpa [hasK] using hq
    repeat (first | refine LOps.valH (r := .one (.v (.pointer (some ⟨w, c, none⟩)))) (LVal.to (LVal.indexP (m := c) hD rfl rfl rfl rfl rfl rfl (by omega)) (by show TV.one (.v (.pointer (some ⟨w, 0 + c * 1, none⟩))) = _; rw [Nat.mul_one, Nat.zero_add])) ?_ | refine LOps.valH (r := .one (bv false)) (LVal.load hD rfl rfl hb rfl (rd_one rfl (rf_has hh hu))) ?_ | refine LWp.condT rfl ?_ | refine LOps.nil ?_ | refine andThen_normal ?_ | refine andThen_exit ?_ | refine andThen_ret ?_ | refine inBlock_normal ?_ | refine inBlock_ret ?_ | refine inBlock_here ?_ | refine inBlock_out rfl ?_ | refine LWp.seq ?_ | refine LWp.region ?_ | refine LWp.block ?_ | refine LWp.exit ?_ | refine LWp.ret ?_ | refine LWp.skip ?_ | refine LOps.valA ?_ | refine LOps.outA ?_ | refine LOps.whenA ?_ | refine LOps.pickA ?_ | refine LOps.storeA ?_)
    refine ⟨_, LRes.two rfl, ?_, rfl⟩
    rw [getI, hn, hq]; rfl
  | true =>
    rw [hq] at hu
    obtain ⟨x, hx⟩ : ∃ x, lk l c = some x := Option.isSome_iff_exists.1 hq
    have hkd := h.kid c x hc hx
    repeat (first | refine LOps.valH (r := .one (.v (.pointer (some ⟨w, c, none⟩)))) (LVal.to (LVal.indexP (m := c) hD rfl rfl rfl rfl rfl rfl (by omega)) (by show TV.one (.v (.pointer (some ⟨w, 0 + c * 1, none⟩))) = _; rw [Nat.mul_one, Nat.zero_add])) ?_ | refine LOps.valH (r := .one (bv true)) (LVal.load hD rfl rfl hb rfl (rd_one rfl (rf_has hh hu))) ?_ | refine LWp.condF rfl ?_ | refine LOps.nil ?_ | refine andThen_normal ?_ | refine andThen_exit ?_ | refine andThen_ret ?_ | refine inBlock_normal ?_ | refine inBlock_ret ?_ | refine inBlock_here ?_ | refine inBlock_out rfl ?_ | refine LWp.seq ?_ | refine LWp.region ?_ | refine LWp.block ?_ | refine LWp.exit ?_ | refine LWp.ret ?_ | refine LWp.skip ?_ | refine LOps.valA ?_ | refine LOps.outA ?_ | refine LOps.whenA ?_ | refine LOps.pickA ?_ | refine LOps.storeA ?_)
    repeat (first | refine LOps.valH (r := .one (.v (.pointer (some ⟨w, 256 + c, none⟩)))) (LVal.to (LVal.indexP (m := c) hD rfl rfl rfl rfl rfl rfl (by omega)) (by show TV.one (.v (.pointer (some ⟨w, 256 + c * 1, none⟩))) = _; rw [Nat.mul_one])) ?_ | refine LOps.valH (r := .one (iv x)) (LVal.load hD rfl rfl hb rfl (rd_one rfl (rf_kid hh hkd))) ?_ | refine LOps.nil ?_ | refine andThen_normal ?_ | refine andThen_exit ?_ | refine andThen_ret ?_ | refine inBlock_normal ?_ | refine inBlock_ret ?_ | refine inBlock_here ?_ | refine inBlock_out rfl ?_ | refine LWp.seq ?_ | refine LWp.region ?_ | refine LWp.block ?_ | refine LWp.exit ?_ | refine LWp.ret ?_ | refine LWp.skip ?_ | refine LOps.valA ?_ | refine LOps.outA ?_ | refine LOps.whenA ?_ | refine LOps.pickA ?_ | refine LOps.storeA ?_)
    refine ⟨_, LRes.two rfl, ?_, rfl⟩
    rw [getI, hx, hq]; rfl

set_option maxHeartbeats 8000000 in
theorem rset_L {G : Ctx} (hP : G.P = Try.prog) {S : LS} {w k : Nat} {l : Kv Int} (h : Rf S w k l) (hok : NodeOK k l) {c : Nat} (hc : c < 256) (x : Int) :
    LCalls G 12 [ptr w, .one (uv (c : Nat)), .one (iv x)] (fun r S' => r = .one (bv (!hasK l c)) ∧ Rf S' w (setK k l c) (setL l c x) ∧ MvF S (fun x => x = w) S' (fun x => x = w)) S := by
  have hD : TabOK G.P D := by rw [hP]; exact hD0
  obtain ⟨hs, kd, hb, h⟩ := h
  have hh := h.hh
  have hk := h.hk
  have ks := h.ks
  have hu := h.has c hc
  have hlen := ks.len
  have mv := MvF.refl S (fun x => x = w)
  refine LCalls.enter (fn := Try.f12) (by rw [hP]; exact Try.func12) rfl rfl ?_
  repeat (first | refine LOps.valH (r := .one (.v (.pointer (some ⟨w, 256 + c, none⟩)))) (LVal.to (LVal.indexP (m := c) hD rfl rfl rfl rfl rfl rfl (by omega)) (by show TV.one (.v (.pointer (some ⟨w, 256 + c * 1, none⟩))) = _; rw [Nat.mul_one])) ?_ | refine LOps.nil ?_ | refine andThen_normal ?_ | refine andThen_exit ?_ | refine andThen_ret ?_ | refine inBlock_normal ?_ | refine inBlock_ret ?_ | refine inBlock_here ?_ | refine inBlock_out rfl ?_ | refine LWp.seq ?_ | refine LWp.region ?_ | refine LWp.block ?_ | refine LWp.exit ?_ | refine LWp.ret ?_ | refine LWp.skip ?_ | refine LOps.valA ?_ | refine LOps.outA ?_ | refine LOps.whenA ?_ | refine LOps.pickA ?_ | refine LOps.storeA ?_)
  refine LOps.do0 (LDo.store hD rfl rfl hb rfl rfl rfl (by rw [Nat.ble_eq]; show 256 + c + 1 ≤ _; rw [rf_len hh hk]; omega)) rfl rfl ?_
  rintro _ S9 ⟨rfl, hS9⟩
  replace hS9 := hS9.trans (congrArg (LS.setBox _ w) (rf_skid hh hk hc x))
  refine LOps.gen (fun S' => S'.box w = some (rfL hs (kd.set c x) l.length k) ∧ MvF S (fun x => x = w) S' (fun x => x = w)) (by rw [hS9]; exact ⟨box_set _ _ _, mv.trans (.own _ _ _)⟩) ?_
  clear hb mv hS9
  rintro S9 ⟨hb, mv⟩
  replace hk : (kd.set c x).length = 256 := by rw [List.length_set]; exact hk
  cases hq : hasK l c with
  | true =>
    rw [hq] at hu
    have e1 : setK k l c = k := by unfold setK; rw [hq]; rfl
    have e2 : (setL l c x).length = l.length := by rw [len_set ks, hq]; rfl
    have h2 := h.over hc x
    rw [h.set_same hc hq] at h2
    rw [e1]
    repeat (first | refine LOps.valH (r := .one (.v (.pointer (some ⟨w, c, none⟩)))) (LVal.to (LVal.indexP (m := c) hD rfl rfl rfl rfl rfl rfl (by omega)) (by show TV.one (.v (.pointer (some ⟨w, 0 + c * 1, none⟩))) = _; rw [Nat.mul_one, Nat.zero_add])) ?_ | refine LOps.valH (r := .one (bv true)) (LVal.load hD rfl rfl hb rfl (rd_one rfl (rf_has hh hu))) ?_ | refine LWp.condT rfl ?_ | refine LOps.nil ?_ | refine andThen_normal ?_ | refine andThen_exit ?_ | refine andThen_ret ?_ | refine inBlock_normal ?_ | refine inBlock_ret ?_ | refine inBlock_here ?_ | refine inBlock_out rfl ?_ | refine LWp.seq ?_ | refine LWp.region ?_ | refine LWp.block ?_ | refine LWp.exit ?_ | refine LWp.ret ?_ | refine LWp.skip ?_ | refine LOps.valA ?_ | refine LOps.outA ?_ | refine LOps.whenA ?_ | refine LOps.pickA ?_ | refine LOps.storeA ?_)
    exact ⟨_, LRes.one rfl, rfl, ⟨hs, kd.set c x, by rw [e2]; exact hb, h2⟩, mv⟩
  | false =>
    rw [hq] at hu
    have e1 : setK k l c = growK k l.length := by unfold setK; rw [hq]; rfl
    have e2 : (setL l c x).length = l.length + 1 := by rw [len_set ks, hq]; rfl
    have hlt := ks.room hc hq
    rw [e1]
    repeat (first | refine LOps.valH (r := .one (.v (.pointer (some ⟨w, c, none⟩)))) (LVal.to (LVal.indexP (m := c) hD rfl rfl rfl rfl rfl rfl (by omega)) (by show TV.one (.v (.pointer (some ⟨w, 0 + c * 1, none⟩))) = _; rw [Nat.mul_one, Nat.zero_add])) ?_ | refine LOps.valH (r := .one (bv false)) (LVal.load hD rfl rfl hb rfl (rd_one rfl (rf_has hh hu))) ?_ | refine LWp.condF rfl ?_ | refine LWp.seq (LWp.cut 4 (fun T1 S1 => S1.box w = some (rfL hs (kd.set c x) l.length (growK k l.length)) ∧ MvF S (fun x => x = w) S1 (fun x => x = w) ∧ ∃ (T2 : Nat → TV), T1 = over T2 [(0, ptr w), (1, .one (uv (c : Nat)))]) rfl ?_ ?_) | refine LOps.nil ?_ | refine andThen_normal ?_ | refine andThen_exit ?_ | refine andThen_ret ?_ | refine inBlock_normal ?_ | refine inBlock_ret ?_ | refine inBlock_here ?_ | refine inBlock_out rfl ?_ | refine LWp.seq ?_ | refine LWp.region ?_ | refine LWp.block ?_ | refine LWp.exit ?_ | refine LWp.ret ?_ | refine LWp.skip ?_ | refine LOps.valA ?_ | refine LOps.outA ?_ | refine LOps.whenA ?_ | refine LOps.pickA ?_ | refine LOps.storeA ?_)
    · repeat (first | refine LOps.nil ?_ | refine andThen_normal ?_ | refine andThen_exit ?_ | refine andThen_ret ?_ | refine inBlock_normal ?_ | refine inBlock_ret ?_ | refine inBlock_here ?_ | refine inBlock_out rfl ?_ | refine LWp.seq ?_ | refine LWp.region ?_ | refine LWp.block ?_ | refine LWp.exit ?_ | refine LWp.ret ?_ | refine LWp.skip ?_ | refine LOps.valA ?_ | refine LOps.outA ?_ | refine LOps.whenA ?_ | refine LOps.pickA ?_ | refine LOps.storeA ?_)
      refine LWp.drawL [0, 1, 2, 3, 4, 5, 6, 7, 8] (by rw [hP]; rfl) rfl ?_
      repeat (first | refine LRl.val (r := .one (iv (l.length : Nat))) (fun _ hS => LVal.load hD rfl rfl (hS.box _ _ hb id) rfl (rd_one rfl (rf_n hh hk))) rfl rfl rfl ?_ | refine LRl.val (r := .one (iv (k : Nat))) (fun _ hS => LVal.load hD rfl rfl (hS.box _ _ hb id) rfl (rd_one rfl (rf_k hh hk))) rfl rfl rfl ?_ | refine LRl.nil ?_ | refine LRl.valA ?_ | refine LRl.outA ?_ | refine LRl.whenA ?_ | refine LRl.pickA ?_)
      repeat (first | refine LOps.nil ?_ | refine andThen_normal ?_ | refine andThen_exit ?_ | refine andThen_ret ?_ | refine inBlock_normal ?_ | refine inBlock_ret ?_ | refine inBlock_here ?_ | refine inBlock_out rfl ?_ | refine LWp.seq ?_ | refine LWp.region ?_ | refine LWp.block ?_ | refine LWp.exit ?_ | refine LWp.ret ?_ | refine LWp.skip ?_)
      refine LWp.cond rfl (fun hq2 => ?_) (fun hq2 => ?_)
      · have hq2 : (((l.length : Nat) : Int) == ((k : Nat) : Int)) = true := hq2
        have hlk : l.length = k := by simp at hq2; omega
        have e3 : growK k l.length = nextK k := by unfold growK; rw [if_pos hlk]
        rw [e3]
        rcases hok.kind with rfl | rfl | rfl | rfl
        · repeat (first | refine LOps.valH (r := .one (iv (4 : Nat))) (LVal.load hD rfl rfl hb rfl (rd_one rfl (rf_k hh hk))) ?_ | refine LOps.nil ?_ | refine andThen_normal ?_ | refine andThen_exit ?_ | refine andThen_ret ?_ | refine inBlock_normal ?_ | refine inBlock_ret ?_ | refine inBlock_here ?_ | refine inBlock_out rfl ?_ | refine LWp.seq ?_ | refine LWp.region ?_ | refine LWp.block ?_ | refine LWp.exit ?_ | refine LWp.ret ?_ | refine LWp.skip ?_ | refine LOps.valA ?_ | refine LOps.outA ?_ | refine LOps.whenA ?_ | refine LOps.pickA ?_ | refine LOps.storeA ?_)
          refine LWp.condT rfl ?_
          repeat (first | refine LOps.nil ?_ | refine andThen_normal ?_ | refine andThen_exit ?_ | refine andThen_ret ?_ | refine inBlock_normal ?_ | refine inBlock_ret ?_ | refine inBlock_here ?_ | refine inBlock_out rfl ?_ | refine LWp.seq ?_ | refine LWp.region ?_ | refine LWp.block ?_ | refine LWp.exit ?_ | refine LWp.ret ?_ | refine LWp.skip ?_ | refine LOps.valA ?_ | refine LOps.outA ?_ | refine LOps.whenA ?_ | refine LOps.pickA ?_)
          refine LOps.do0 (LDo.store hD rfl rfl hb rfl rfl rfl (by rw [Nat.ble_eq]; show 513 + 1 ≤ _; rw [rf_len hh hk]; omega)) rfl rfl ?_
          rintro _ S9 ⟨rfl, hS9⟩
          replace hS9 := hS9.trans (congrArg (LS.setBox _ w) (rf_sk hh hk 16))
          refine LOps.gen (fun S' => S'.box w = some (rfL hs (kd.set c x) l.length 16) ∧ MvF S (fun x => x = w) S' (fun x => x = w)) (by rw [hS9]; exact ⟨box_set _ _ _, mv.trans (.own _ _ _)⟩) ?_
          clear hb mv hS9
          rintro S9 ⟨hb, mv⟩
          repeat (first | refine LOps.nil ?_ | refine andThen_normal ?_ | refine andThen_exit ?_ | refine andThen_ret ?_ | refine inBlock_normal ?_ | refine inBlock_ret ?_ | refine inBlock_here ?_ | refine inBlock_out rfl ?_ | refine LWp.seq ?_ | refine LWp.region ?_ | refine LWp.block ?_ | refine LWp.exit ?_ | refine LWp.ret ?_ | refine LWp.skip ?_ | refine LOps.valA ?_ | refine LOps.outA ?_ | refine LOps.whenA ?_ | refine LOps.pickA ?_ | refine LOps.storeA ?_)
          exact ⟨hb, mv, _, holds.over ⟨rfl, rfl, trivial⟩⟩
        · repeat (first | refine LOps.valH (r := .one (iv (16 : Nat))) (LVal.load hD rfl rfl hb rfl (rd_one rfl (rf_k hh hk))) ?_ | refine LOps.nil ?_ | refine andThen_normal ?_ | refine andThen_exit ?_ | refine andThen_ret ?_ | refine inBlock_normal ?_ | refine inBlock_ret ?_ | refine inBlock_here ?_ | refine inBlock_out rfl ?_ | refine LWp.seq ?_ | refine LWp.region ?_ | refine LWp.block ?_ | refine LWp.exit ?_ | refine LWp.ret ?_ | refine LWp.skip ?_ | refine LOps.valA ?_ | refine LOps.outA ?_ | refine LOps.whenA ?_ | refine LOps.pickA ?_ | refine LOps.storeA ?_)
          refine LWp.condF rfl ?_
          repeat (first | refine LOps.nil ?_ | refine andThen_normal ?_ | refine andThen_exit ?_ | refine andThen_ret ?_ | refine inBlock_normal ?_ | refine inBlock_ret ?_ | refine inBlock_here ?_ | refine inBlock_out rfl ?_ | refine LWp.seq ?_ | refine LWp.region ?_ | refine LWp.block ?_ | refine LWp.exit ?_ | refine LWp.ret ?_ | refine LWp.skip ?_ | refine LOps.valA ?_ | refine LOps.outA ?_ | refine LOps.whenA ?_ | refine LOps.pickA ?_ | refine LOps.storeA ?_)
          refine LWp.condT rfl ?_
          repeat (first | refine LOps.nil ?_ | refine andThen_normal ?_ | refine andThen_exit ?_ | refine andThen_ret ?_ | refine inBlock_normal ?_ | refine inBlock_ret ?_ | refine inBlock_here ?_ | refine inBlock_out rfl ?_ | refine LWp.seq ?_ | refine LWp.region ?_ | refine LWp.block ?_ | refine LWp.exit ?_ | refine LWp.ret ?_ | refine LWp.skip ?_ | refine LOps.valA ?_ | refine LOps.outA ?_ | refine LOps.whenA ?_ | refine LOps.pickA ?_)
          refine LOps.do0 (LDo.store hD rfl rfl hb rfl rfl rfl (by rw [Nat.ble_eq]; show 513 + 1 ≤ _; rw [rf_len hh hk]; omega)) rfl rfl ?_
          rintro _ S9 ⟨rfl, hS9⟩
          replace hS9 := hS9.trans (congrArg (LS.setBox _ w) (rf_sk hh hk 48))
          refine LOps.gen (fun S' => S'.box w = some (rfL hs (kd.set c x) l.length 48) ∧ MvF S (fun x => x = w) S' (fun x => x = w)) (by rw [hS9]; exact ⟨box_set _ _ _, mv.trans (.own _ _ _)⟩) ?_
          clear hb mv hS9
          rintro S9 ⟨hb, mv⟩
          repeat (first | refine LOps.nil ?_ | refine andThen_normal ?_ | refine andThen_exit ?_ | refine andThen_ret ?_ | refine inBlock_normal ?_ | refine inBlock_ret ?_ | refine inBlock_here ?_ | refine inBlock_out rfl ?_ | refine LWp.seq ?_ | refine LWp.region ?_ | refine LWp.block ?_ | refine LWp.exit ?_ | refine LWp.ret ?_ | refine LWp.skip ?_ | refine LOps.valA ?_ | refine LOps.outA ?_ | refine LOps.whenA ?_ | refine LOps.pickA ?_ | refine LOps.storeA ?_)
          exact ⟨hb, mv, _, holds.over ⟨rfl, rfl, trivial⟩⟩
        · repeat (first | refine LOps.valH (r := .one (iv (48 : Nat))) (LVal.load hD rfl rfl hb rfl (rd_one rfl (rf_k hh hk))) ?_ | refine LOps.nil ?_ | refine andThen_normal ?_ | refine andThen_exit ?_ | refine andThen_ret ?_ | refine inBlock_normal ?_ | refine inBlock_ret ?_ | refine inBlock_here ?_ | refine inBlock_out rfl ?_ | refine LWp.seq ?_ | refine LWp.region ?_ | refine LWp.block ?_ | refine LWp.exit ?_ | refine LWp.ret ?_ | refine LWp.skip ?_ | refine LOps.valA ?_ | refine LOps.outA ?_ | refine LOps.whenA ?_ | refine LOps.pickA ?_ | refine LOps.storeA ?_)
          refine LWp.condF rfl ?_
          repeat (first | refine LOps.nil ?_ | refine andThen_normal ?_ | refine andThen_exit ?_ | refine andThen_ret ?_ | refine inBlock_normal ?_ | refine inBlock_ret ?_ | refine inBlock_here ?_ | refine inBlock_out rfl ?_ | refine LWp.seq ?_ | refine LWp.region ?_ | refine LWp.block ?_ | refine LWp.exit ?_ | refine LWp.ret ?_ | refine LWp.skip ?_ | refine LOps.valA ?_ | refine LOps.outA ?_ | refine LOps.whenA ?_ | refine LOps.pickA ?_ | refine LOps.storeA ?_)
          refine LWp.condF rfl ?_
          repeat (first | refine LOps.nil ?_ | refine andThen_normal ?_ | refine andThen_exit ?_ | refine andThen_ret ?_ | refine inBlock_normal ?_ | refine inBlock_ret ?_ | refine inBlock_here ?_ | refine inBlock_out rfl ?_ | refine LWp.seq ?_ | refine LWp.region ?_ | refine LWp.block ?_ | refine LWp.exit ?_ | refine LWp.ret ?_ | refine LWp.skip ?_ | refine LOps.valA ?_ | refine LOps.outA ?_ | refine LOps.whenA ?_ | refine LOps.pickA ?_ | refine LOps.storeA ?_)
          refine LWp.condT rfl ?_
          repeat (first | refine LOps.nil ?_ | refine andThen_normal ?_ | refine andThen_exit ?_ | refine andThen_ret ?_ | refine inBlock_normal ?_ | refine inBlock_ret ?_ | refine inBlock_here ?_ | refine inBlock_out rfl ?_ | refine LWp.seq ?_ | refine LWp.region ?_ | refine LWp.block ?_ | refine LWp.exit ?_ | refine LWp.ret ?_ | refine LWp.skip ?_ | refine LOps.valA ?_ | refine LOps.outA ?_ | refine LOps.whenA ?_ | refine LOps.pickA ?_)
          refine LOps.do0 (LDo.store hD rfl rfl hb rfl rfl rfl (by rw [Nat.ble_eq]; show 513 + 1 ≤ _; rw [rf_len hh hk]; omega)) rfl rfl ?_
          rintro _ S9 ⟨rfl, hS9⟩
          replace hS9 := hS9.trans (congrArg (LS.setBox _ w) (rf_sk hh hk 256))
          refine LOps.gen (fun S' => S'.box w = some (rfL hs (kd.set c x) l.length 256) ∧ MvF S (fun x => x = w) S' (fun x => x = w)) (by rw [hS9]; exact ⟨box_set _ _ _, mv.trans (.own _ _ _)⟩) ?_
          clear hb mv hS9
          rintro S9 ⟨hb, mv⟩
          repeat (first | refine LOps.nil ?_ | refine andThen_normal ?_ | refine andThen_exit ?_ | refine andThen_ret ?_ | refine inBlock_normal ?_ | refine inBlock_ret ?_ | refine inBlock_here ?_ | refine inBlock_out rfl ?_ | refine LWp.seq ?_ | refine LWp.region ?_ | refine LWp.block ?_ | refine LWp.exit ?_ | refine LWp.ret ?_ | refine LWp.skip ?_ | refine LOps.valA ?_ | refine LOps.outA ?_ | refine LOps.whenA ?_ | refine LOps.pickA ?_ | refine LOps.storeA ?_)
          exact ⟨hb, mv, _, holds.over ⟨rfl, rfl, trivial⟩⟩
        · omega
      · have hq2 : (((l.length : Nat) : Int) == ((k : Nat) : Int)) = false := hq2
        have hlk : l.length ≠ k := by simp at hq2; omega
        have e3 : growK k l.length = k := by unfold growK; rw [if_neg hlk]
        rw [e3]
        repeat (first | refine LOps.nil ?_ | refine andThen_normal ?_ | refine andThen_exit ?_ | refine andThen_ret ?_ | refine inBlock_normal ?_ | refine inBlock_ret ?_ | refine inBlock_here ?_ | refine inBlock_out rfl ?_ | refine LWp.seq ?_ | refine LWp.region ?_ | refine LWp.block ?_ | refine LWp.exit ?_ | refine LWp.ret ?_ | refine LWp.skip ?_ | refine LOps.valA ?_ | refine LOps.outA ?_ | refine LOps.whenA ?_ | refine LOps.pickA ?_ | refine LOps.storeA ?_)
        exact ⟨hb, mv, _, holds.over ⟨rfl, rfl, trivial⟩⟩
    clear hb mv
    rintro T1 S1 ⟨hb, mv, T2, rfl⟩
    repeat (first | refine LOps.valH (r := .one (.v (.pointer (some ⟨w, c, none⟩)))) (LVal.to (LVal.indexP (m := c) hD rfl rfl rfl rfl rfl rfl (by omega)) (by show TV.one (.v (.pointer (some ⟨w, 0 + c * 1, none⟩))) = _; rw [Nat.mul_one, Nat.zero_add])) ?_ | refine LOps.nil ?_ | refine andThen_normal ?_ | refine andThen_exit ?_ | refine andThen_ret ?_ | refine inBlock_normal ?_ | refine inBlock_ret ?_ | refine inBlock_here ?_ | refine inBlock_out rfl ?_ | refine LWp.seq ?_ | refine LWp.region ?_ | refine LWp.block ?_ | refine LWp.exit ?_ | refine LWp.ret ?_ | refine LWp.skip ?_ | refine LOps.valA ?_ | refine LOps.outA ?_ | refine LOps.whenA ?_ | refine LOps.pickA ?_ | refine LOps.storeA ?_)
    refine LOps.do0 (LDo.store hD rfl rfl hb rfl rfl rfl (by rw [Nat.ble_eq]; show c + 1 ≤ _; rw [rf_len hh hk]; omega)) rfl rfl ?_
    rintro _ S9 ⟨rfl, hS9⟩
    replace hS9 := hS9.trans (congrArg (LS.setBox _ w) (rf_shas hh hc true))
    refine LOps.gen (fun S' => S'.box w = some (rfL (hs.set c true) (kd.set c x) l.length (growK k l.length)) ∧ MvF S (fun x => x = w) S' (fun x => x = w)) (by rw [hS9]; exact ⟨box_set _ _ _, mv.trans (.own _ _ _)⟩) ?_
    clear hb mv hS9
    rintro S9 ⟨hb, mv⟩
    replace hh : (hs.set c true).length = 256 := by rw [List.length_set]; exact hh
    repeat (first | refine LOps.valH (r := .one (iv (l.length : Nat))) (LVal.load hD rfl rfl hb rfl (rd_one rfl (rf_n hh hk))) ?_ | refine LOps.valH (r := .one (iv (l.length + 1 : Nat))) (LVal.to (LVal.add64 rfl rfl rfl (by omega)) rfl) ?_ | refine LOps.nil ?_ | refine andThen_normal ?_ | refine andThen_exit ?_ | refine andThen_ret ?_ | refine inBlock_normal ?_ | refine inBlock_ret ?_ | refine inBlock_here ?_ | refine inBlock_out rfl ?_ | refine LWp.seq ?_ | refine LWp.region ?_ | refine LWp.block ?_ | refine LWp.exit ?_ | refine LWp.ret ?_ | refine LWp.skip ?_ | refine LOps.valA ?_ | refine LOps.outA ?_ | refine LOps.whenA ?_ | refine LOps.pickA ?_)
    refine LOps.do0 (LDo.store hD rfl rfl hb rfl rfl rfl (by rw [Nat.ble_eq]; show 512 + 1 ≤ _; rw [rf_len hh hk]; omega)) rfl rfl ?_
    rintro _ S9 ⟨rfl, hS9⟩
    replace hS9 := hS9.trans (congrArg (LS.setBox _ w) (rf_sn hh hk (l.length + 1)))
    refine LOps.gen (fun S' => S'.box w = some (rfL (hs.set c true) (kd.set c x) (l.length + 1) (growK k l.length)) ∧ MvF S (fun x => x = w) S' (fun x => x = w)) (by rw [hS9]; exact ⟨box_set _ _ _, mv.trans (.own _ _ _)⟩) ?_
    clear hb mv hS9
    rintro S9 ⟨hb, mv⟩
    repeat (first | refine LOps.nil ?_ | refine andThen_normal ?_ | refine andThen_exit ?_ | refine andThen_ret ?_ | refine inBlock_normal ?_ | refine inBlock_ret ?_ | refine inBlock_here ?_ | refine inBlock_out rfl ?_ | refine LWp.seq ?_ | refine LWp.region ?_ | refine LWp.block ?_ | refine LWp.exit ?_ | refine LWp.ret ?_ | refine LWp.skip ?_ | refine LOps.valA ?_ | refine LOps.outA ?_ | refine LOps.whenA ?_ | refine LOps.pickA ?_ | refine LOps.storeA ?_)
    exact ⟨_, LRes.one rfl, rfl, ⟨_, _, by rw [e2]; exact hb, h.over hc x⟩, mv⟩

set_option maxHeartbeats 8000000 in
theorem rdrop_L {G : Ctx} (hP : G.P = Try.prog) {S : LS} {w k : Nat} {l : Kv Int} (h : Rf S w k l) (hok : NodeOK k l) {c : Nat} (hc : c < 256) :
    LCalls G 14 [ptr w, .one (uv (c : Nat))] (fun r S' => r = .one (bv (hasK l c)) ∧ Rf S' w (dropK k l c) (delL l c) ∧ MvF S (fun x => x = w) S' (fun x => x = w)) S := by
  have hD : TabOK G.P D := by rw [hP]; exact hD0
  have h0 := h
  obtain ⟨hs, kd, hb, h⟩ := h
  have hh := h.hh
  have hk := h.hk
  have ks := h.ks
  have hu := h.has c hc
  have hlen := ks.len
  have mv := MvF.refl S (fun x => x = w)
  refine LCalls.enter (fn := Try.f14) (by rw [hP]; exact Try.func14) rfl rfl ?_
  cases hq : hasK l c with
  | false =>
    rw [hq] at hu
    have e1 : dropK k l c = k := by unfold dropK; rw [hq]; rfl
    rw [e1, delL_not hq]
    repeat (first | refine LOps.valH (r := .one (.v (.pointer (some ⟨w, c, none⟩)))) (LVal.to (LVal.indexP (m := c) hD rfl rfl rfl rfl rfl rfl (by omega)) (by show TV.one (.v (.pointer (some ⟨w, 0 + c * 1, none⟩))) = _; rw [Nat.mul_one, Nat.zero_add])) ?_ | refine LOps.valH (r := .one (bv false)) (LVal.load hD rfl rfl hb rfl (rd_one rfl (rf_has hh hu))) ?_ | refine LWp.condT rfl ?_ | refine LOps.nil ?_ | refine andThen_normal ?_ | refine andThen_exit ?_ | refine andThen_ret ?_ | refine inBlock_normal ?_ | refine inBlock_ret ?_ | refine inBlock_here ?_ | refine inBlock_out rfl ?_ | refine LWp.seq ?_ | refine LWp.region ?_ | refine LWp.block ?_ | refine LWp.exit ?_ | refine LWp.ret ?_ | refine LWp.skip ?_ | refine LOps.valA ?_ | refine LOps.outA ?_ | refine LOps.whenA ?_ | refine LOps.pickA ?_ | refine LOps.storeA ?_)
    exact ⟨_, LRes.one rfl, rfl, h0, mv⟩
  | true =>
    rw [hq] at hu
    have e1 : dropK k l c = shrinkK k (l.length - 1) := by unfold dropK; rw [hq]; rfl
    have e2 : (delL l c).length = l.length - 1 := by rw [len_del ks, hq]; rfl
    have hpos : 0 < l.length := by obtain ⟨h1, _⟩ := hasK_at ks hq; omega
    rw [e1]
    repeat (first | refine LOps.valH (r := .one (.v (.pointer (some ⟨w, c, none⟩)))) (LVal.to (LVal.indexP (m := c) hD rfl rfl rfl rfl rfl rfl (by omega)) (by show TV.one (.v (.pointer (some ⟨w, 0 + c * 1, none⟩))) = _; rw [Nat.mul_one, Nat.zero_add])) ?_ | refine LOps.valH (r := .one (bv true)) (LVal.load hD rfl rfl hb rfl (rd_one rfl (rf_has hh hu))) ?_ | refine LWp.condF rfl ?_ | refine LOps.nil ?_ | refine andThen_normal ?_ | refine andThen_exit ?_ | refine andThen_ret ?_ | refine inBlock_normal ?_ | refine inBlock_ret ?_ | refine inBlock_here ?_ | refine inBlock_out rfl ?_ | refine LWp.seq ?_ | refine LWp.region ?_ | refine LWp.block ?_ | refine LWp.exit ?_ | refine LWp.ret ?_ | refine LWp.skip ?_ | refine LOps.valA ?_ | refine LOps.outA ?_ | refine LOps.whenA ?_ | refine LOps.pickA ?_)
    refine LOps.do0 (LDo.store hD rfl rfl hb rfl rfl rfl (by rw [Nat.ble_eq]; show c + 1 ≤ _; rw [rf_len hh hk]; omega)) rfl rfl ?_
    rintro _ S9 ⟨rfl, hS9⟩
    replace hS9 := hS9.trans (congrArg (LS.setBox _ w) (rf_shas hh hc false))
    refine LOps.gen (fun S' => S'.box w = some (rfL (hs.set c false) kd l.length k) ∧ MvF S (fun x => x = w) S' (fun x => x = w)) (by rw [hS9]; exact ⟨box_set _ _ _, mv.trans (.own _ _ _)⟩) ?_
    clear hb mv hS9
    rintro S9 ⟨hb, mv⟩
    replace hh : (hs.set c false).length = 256 := by rw [List.length_set]; exact hh
    repeat (first | refine LOps.valH (r := .one (iv (l.length : Nat))) (LVal.load hD rfl rfl hb rfl (rd_one rfl (rf_n hh hk))) ?_ | refine LOps.valH (r := .one (iv (l.length - 1 : Nat))) (LVal.to (LVal.sub64 rfl rfl rfl (by omega)) (by rw [show ((l.length : Nat) : Int) - 1 = ((l.length - 1 : Nat) : Int) by omega])) ?_ | refine LOps.nil ?_ | refine andThen_normal ?_ | refine andThen_exit ?_ | refine andThen_ret ?_ | refine inBlock_normal ?_ | refine inBlock_ret ?_ | refine inBlock_here ?_ | refine inBlock_out rfl ?_ | refine LWp.seq ?_ | refine LWp.region ?_ | refine LWp.block ?_ | refine LWp.exit ?_ | refine LWp.ret ?_ | refine LWp.skip ?_ | refine LOps.valA ?_ | refine LOps.outA ?_ | refine LOps.whenA ?_ | refine LOps.pickA ?_)
    refine LOps.do0 (LDo.store hD rfl rfl hb rfl rfl rfl (by rw [Nat.ble_eq]; show 512 + 1 ≤ _; rw [rf_len hh hk]; omega)) rfl rfl ?_
    rintro _ S9 ⟨rfl, hS9⟩
    replace hS9 := hS9.trans (congrArg (LS.setBox _ w) (rf_sn hh hk (l.length - 1)))
    refine LOps.gen (fun S' => S'.box w = some (rfL (hs.set c false) kd (l.length - 1) k) ∧ MvF S (fun x => x = w) S' (fun x => x = w)) (by rw [hS9]; exact ⟨box_set _ _ _, mv.trans (.own _ _ _)⟩) ?_
    clear hb mv hS9
    rintro S9 ⟨hb, mv⟩
    have hoff := h.off hc
    rcases hok.kind with rfl | rfl | rfl | rfl
    · have e3 : shrinkK 4 (l.length - 1) = 4 := by unfold shrinkK; simp
      rw [e3]
      repeat (first | refine LOps.valH (r := .one (iv (4 : Nat))) (LVal.load hD rfl rfl hb rfl (rd_one rfl (rf_k hh hk))) ?_ | refine LOps.whenC (r := .one (iv (l.length - 1 : Nat))) (LVal.load hD rfl rfl hb rfl (rd_one rfl (rf_n hh hk))) ?_ | refine LWp.condF rfl ?_ | refine LOps.nil ?_ | refine andThen_normal ?_ | refine andThen_exit ?_ | refine andThen_ret ?_ | refine inBlock_normal ?_ | refine inBlock_ret ?_ | refine inBlock_here ?_ | refine inBlock_out rfl ?_ | refine LWp.seq ?_ | refine LWp.region ?_ | refine LWp.block ?_ | refine LWp.exit ?_ | refine LWp.ret ?_ | refine LWp.skip ?_ | refine LOps.valA ?_ | refine LOps.outA ?_ | refine LOps.whenA ?_ | refine LOps.pickA ?_ | refine LOps.storeA ?_)
      exact ⟨_, LRes.one rfl, rfl, ⟨_, _, by rw [e2]; exact hb, hoff⟩, mv⟩
    · repeat (first | refine LOps.valH (r := .one (iv (16 : Nat))) (LVal.load hD rfl rfl hb rfl (rd_one rfl (rf_k hh hk))) ?_ | refine LOps.whenC (r := .one (iv (l.length - 1 : Nat))) (LVal.load hD rfl rfl hb rfl (rd_one rfl (rf_n hh hk))) ?_ | refine LOps.nil ?_ | refine andThen_normal ?_ | refine andThen_exit ?_ | refine andThen_ret ?_ | refine inBlock_normal ?_ | refine inBlock_ret ?_ | refine inBlock_here ?_ | refine inBlock_out rfl ?_ | refine LWp.seq ?_ | refine LWp.region ?_ | refine LWp.block ?_ | refine LWp.exit ?_ | refine LWp.ret ?_ | refine LWp.skip ?_ | refine LOps.valA ?_ | refine LOps.outA ?_ | refine LOps.whenA ?_ | refine LOps.pickA ?_ | refine LOps.storeA ?_)
      refine LWp.cond rfl (fun hq2 => ?_) (fun hq2 => ?_)
      · have hq2 : ((((16 : Nat) : Int) == 16) && decide (((l.length - 1 : Nat) : Int) ≤ 3)) = true := hq2
        have h4 : l.length - 1 ≤ 3 := by simp at hq2; omega
        have e3 : shrinkK 16 (l.length - 1) = 4 := by unfold shrinkK; simp [h4]
        rw [e3]
        repeat (first | refine LOps.nil ?_ | refine andThen_normal ?_ | refine andThen_exit ?_ | refine andThen_ret ?_ | refine inBlock_normal ?_ | refine inBlock_ret ?_ | refine inBlock_here ?_ | refine inBlock_out rfl ?_ | refine LWp.seq ?_ | refine LWp.region ?_ | refine LWp.block ?_ | refine LWp.exit ?_ | refine LWp.ret ?_ | refine LWp.skip ?_ | refine LOps.valA ?_ | refine LOps.outA ?_ | refine LOps.whenA ?_ | refine LOps.pickA ?_)
        refine LOps.do0 (LDo.store hD rfl rfl hb rfl rfl rfl (by rw [Nat.ble_eq]; show 513 + 1 ≤ _; rw [rf_len hh hk]; omega)) rfl rfl ?_
        rintro _ S9 ⟨rfl, hS9⟩
        replace hS9 := hS9.trans (congrArg (LS.setBox _ w) (rf_sk hh hk 4))
        refine LOps.gen (fun S' => S'.box w = some (rfL (hs.set c false) kd (l.length - 1) 4) ∧ MvF S (fun x => x = w) S' (fun x => x = w)) (by rw [hS9]; exact ⟨box_set _ _ _, mv.trans (.own _ _ _)⟩) ?_
        clear hb mv hS9
        rintro S9 ⟨hb, mv⟩
        repeat (first | refine LOps.nil ?_ | refine andThen_normal ?_ | refine andThen_exit ?_ | refine andThen_ret ?_ | refine inBlock_normal ?_ | refine inBlock_ret ?_ | refine inBlock_here ?_ | refine inBlock_out rfl ?_ | refine LWp.seq ?_ | refine LWp.region ?_ | refine LWp.block ?_ | refine LWp.exit ?_ | refine LWp.ret ?_ | refine LWp.skip ?_ | refine LOps.valA ?_ | refine LOps.outA ?_ | refine LOps.whenA ?_ | refine LOps.pickA ?_ | refine LOps.storeA ?_)
        exact ⟨_, LRes.one rfl, rfl, ⟨_, _, by rw [e2]; exact hb, hoff⟩, mv⟩
      · have hq2 : ((((16 : Nat) : Int) == 16) && decide (((l.length - 1 : Nat) : Int) ≤ 3)) = false := hq2
        have h4 : ¬ l.length - 1 ≤ 3 := by simp at hq2; omega
        have e3 : shrinkK 16 (l.length - 1) = 16 := by unfold shrinkK; simp [h4]
        rw [e3]
        repeat (first | refine LOps.valH (r := .one (iv (16 : Nat))) (LVal.load hD rfl rfl hb rfl (rd_one rfl (rf_k hh hk))) ?_ | refine LOps.whenC (r := .one (iv (l.length - 1 : Nat))) (LVal.load hD rfl rfl hb rfl (rd_one rfl (rf_n hh hk))) ?_ | refine LWp.condF rfl ?_ | refine LOps.nil ?_ | refine andThen_normal ?_ | refine andThen_exit ?_ | refine andThen_ret ?_ | refine inBlock_normal ?_ | refine inBlock_ret ?_ | refine inBlock_here ?_ | refine inBlock_out rfl ?_ | refine LWp.seq ?_ | refine LWp.region ?_ | refine LWp.block ?_ | refine LWp.exit ?_ | refine LWp.ret ?_ | refine LWp.skip ?_ | refine LOps.valA ?_ | refine LOps.outA ?_ | refine LOps.whenA ?_ | refine LOps.pickA ?_ | refine LOps.storeA ?_)
        exact ⟨_, LRes.one rfl, rfl, ⟨_, _, by rw [e2]; exact hb, hoff⟩, mv⟩
    · repeat (first | refine LOps.valH (r := .one (iv (48 : Nat))) (LVal.load hD rfl rfl hb rfl (rd_one rfl (rf_k hh hk))) ?_ | refine LOps.whenC (r := .one (iv (l.length - 1 : Nat))) (LVal.load hD rfl rfl hb rfl (rd_one rfl (rf_n hh hk))) ?_ | refine LOps.nil ?_ | refine andThen_normal ?_ | refine andThen_exit ?_ | refine andThen_ret ?_ | refine inBlock_normal ?_ | refine inBlock_ret ?_ | refine inBlock_here ?_ | refine inBlock_out rfl ?_ | refine LWp.seq ?_ | refine LWp.region ?_ | refine LWp.block ?_ | refine LWp.exit ?_ | refine LWp.ret ?_ | refine LWp.skip ?_ | refine LOps.valA ?_ | refine LOps.outA ?_ | refine LOps.whenA ?_ | refine LOps.pickA ?_ | refine LOps.storeA ?_)
      refine LWp.condF rfl ?_
      repeat (first | refine LOps.valH (r := .one (iv (48 : Nat))) (LVal.load hD rfl rfl hb rfl (rd_one rfl (rf_k hh hk))) ?_ | refine LOps.whenC (r := .one (iv (l.length - 1 : Nat))) (LVal.load hD rfl rfl hb rfl (rd_one rfl (rf_n hh hk))) ?_ | refine LOps.nil ?_ | refine andThen_normal ?_ | refine andThen_exit ?_ | refine andThen_ret ?_ | refine inBlock_normal ?_ | refine inBlock_ret ?_ | refine inBlock_here ?_ | refine inBlock_out rfl ?_ | refine LWp.seq ?_ | refine LWp.region ?_ | refine LWp.block ?_ | refine LWp.exit ?_ | refine LWp.ret ?_ | refine LWp.skip ?_ | refine LOps.valA ?_ | refine LOps.outA ?_ | refine LOps.whenA ?_ | refine LOps.pickA ?_ | refine LOps.storeA ?_)
      refine LWp.cond rfl (fun hq2 => ?_) (fun hq2 => ?_)
      · have hq2 : ((((48 : Nat) : Int) == 48) && decide (((l.length - 1 : Nat) : Int) ≤ 12)) = true := hq2
        have h4 : l.length - 1 ≤ 12 := by simp at hq2; omega
        have e3 : shrinkK 48 (l.length - 1) = 16 := by unfold shrinkK; simp [h4]
        rw [e3]
        repeat (first | refine LOps.nil ?_ | refine andThen_normal ?_ | refine andThen_exit ?_ | refine andThen_ret ?_ | refine inBlock_normal ?_ | refine inBlock_ret ?_ | refine inBlock_here ?_ | refine inBlock_out rfl ?_ | refine LWp.seq ?_ | refine LWp.region ?_ | refine LWp.block ?_ | refine LWp.exit ?_ | refine LWp.ret ?_ | refine LWp.skip ?_ | refine LOps.valA ?_ | refine LOps.outA ?_ | refine LOps.whenA ?_ | refine LOps.pickA ?_)
        refine LOps.do0 (LDo.store hD rfl rfl hb rfl rfl rfl (by rw [Nat.ble_eq]; show 513 + 1 ≤ _; rw [rf_len hh hk]; omega)) rfl rfl ?_
        rintro _ S9 ⟨rfl, hS9⟩
        replace hS9 := hS9.trans (congrArg (LS.setBox _ w) (rf_sk hh hk 16))
        refine LOps.gen (fun S' => S'.box w = some (rfL (hs.set c false) kd (l.length - 1) 16) ∧ MvF S (fun x => x = w) S' (fun x => x = w)) (by rw [hS9]; exact ⟨box_set _ _ _, mv.trans (.own _ _ _)⟩) ?_
        clear hb mv hS9
        rintro S9 ⟨hb, mv⟩
        repeat (first | refine LOps.nil ?_ | refine andThen_normal ?_ | refine andThen_exit ?_ | refine andThen_ret ?_ | refine inBlock_normal ?_ | refine inBlock_ret ?_ | refine inBlock_here ?_ | refine inBlock_out rfl ?_ | refine LWp.seq ?_ | refine LWp.region ?_ | refine LWp.block ?_ | refine LWp.exit ?_ | refine LWp.ret ?_ | refine LWp.skip ?_ | refine LOps.valA ?_ | refine LOps.outA ?_ | refine LOps.whenA ?_ | refine LOps.pickA ?_ | refine LOps.storeA ?_)
        exact ⟨_, LRes.one rfl, rfl, ⟨_, _, by rw [e2]; exact hb, hoff⟩, mv⟩
      · have hq2 : ((((48 : Nat) : Int) == 48) && decide (((l.length - 1 : Nat) : Int) ≤ 12)) = false := hq2
        have h4 : ¬ l.length - 1 ≤ 12 := by simp at hq2; omega
        have e3 : shrinkK 48 (l.length - 1) = 48 := by unfold shrinkK; simp [h4]
        rw [e3]
        repeat (first | refine LOps.valH (r := .one (iv (48 : Nat))) (LVal.load hD rfl rfl hb rfl (rd_one rfl (rf_k hh hk))) ?_ | refine LOps.whenC (r := .one (iv (l.length - 1 : Nat))) (LVal.load hD rfl rfl hb rfl (rd_one rfl (rf_n hh hk))) ?_ | refine LWp.condF rfl ?_ | refine LOps.nil ?_ | refine andThen_normal ?_ | refine andThen_exit ?_ | refine andThen_ret ?_ | refine inBlock_normal ?_ | refine inBlock_ret ?_ | refine inBlock_here ?_ | refine inBlock_out rfl ?_ | refine LWp.seq ?_ | refine LWp.region ?_ | refine LWp.block ?_ | refine LWp.exit ?_ | refine LWp.ret ?_ | refine LWp.skip ?_ | refine LOps.valA ?_ | refine LOps.outA ?_ | refine LOps.whenA ?_ | refine LOps.pickA ?_ | refine LOps.storeA ?_)
        exact ⟨_, LRes.one rfl, rfl, ⟨_, _, by rw [e2]; exact hb, hoff⟩, mv⟩
    · repeat (first | refine LOps.valH (r := .one (iv (256 : Nat))) (LVal.load hD rfl rfl hb rfl (rd_one rfl (rf_k hh hk))) ?_ | refine LOps.whenC (r := .one (iv (l.length - 1 : Nat))) (LVal.load hD rfl rfl hb rfl (rd_one rfl (rf_n hh hk))) ?_ | refine LOps.nil ?_ | refine andThen_normal ?_ | refine andThen_exit ?_ | refine andThen_ret ?_ | refine inBlock_normal ?_ | refine inBlock_ret ?_ | refine inBlock_here ?_ | refine inBlock_out rfl ?_ | refine LWp.seq ?_ | refine LWp.region ?_ | refine LWp.block ?_ | refine LWp.exit ?_ | refine LWp.ret ?_ | refine LWp.skip ?_ | refine LOps.valA ?_ | refine LOps.outA ?_ | refine LOps.whenA ?_ | refine LOps.pickA ?_ | refine LOps.storeA ?_)
      refine LWp.condF rfl ?_
      repeat (first | refine LOps.valH (r := .one (iv (256 : Nat))) (LVal.load hD rfl rfl hb rfl (rd_one rfl (rf_k hh hk))) ?_ | refine LOps.whenC (r := .one (iv (l.length - 1 : Nat))) (LVal.load hD rfl rfl hb rfl (rd_one rfl (rf_n hh hk))) ?_ | refine LOps.nil ?_ | refine andThen_normal ?_ | refine andThen_exit ?_ | refine andThen_ret ?_ | refine inBlock_normal ?_ | refine inBlock_ret ?_ | refine inBlock_here ?_ | refine inBlock_out rfl ?_ | refine LWp.seq ?_ | refine LWp.region ?_ | refine LWp.block ?_ | refine LWp.exit ?_ | refine LWp.ret ?_ | refine LWp.skip ?_ | refine LOps.valA ?_ | refine LOps.outA ?_ | refine LOps.whenA ?_ | refine LOps.pickA ?_ | refine LOps.storeA ?_)
      refine LWp.condF rfl ?_
      repeat (first | refine LOps.valH (r := .one (iv (256 : Nat))) (LVal.load hD rfl rfl hb rfl (rd_one rfl (rf_k hh hk))) ?_ | refine LOps.whenC (r := .one (iv (l.length - 1 : Nat))) (LVal.load hD rfl rfl hb rfl (rd_one rfl (rf_n hh hk))) ?_ | refine LOps.nil ?_ | refine andThen_normal ?_ | refine andThen_exit ?_ | refine andThen_ret ?_ | refine inBlock_normal ?_ | refine inBlock_ret ?_ | refine inBlock_here ?_ | refine inBlock_out rfl ?_ | refine LWp.seq ?_ | refine LWp.region ?_ | refine LWp.block ?_ | refine LWp.exit ?_ | refine LWp.ret ?_ | refine LWp.skip ?_ | refine LOps.valA ?_ | refine LOps.outA ?_ | refine LOps.whenA ?_ | refine LOps.pickA ?_ | refine LOps.storeA ?_)
      refine LWp.cond rfl (fun hq2 => ?_) (fun hq2 => ?_)
      · have hq2 : ((((256 : Nat) : Int) == 256) && decide (((l.length - 1 : Nat) : Int) ≤ 36)) = true := hq2
        have h4 : l.length - 1 ≤ 36 := by simp at hq2; omega
        have e3 : shrinkK 256 (l.length - 1) = 48 := by unfold shrinkK; simp [h4]
        rw [e3]
        repeat (first | refine LOps.nil ?_ | refine andThen_normal ?_ | refine andThen_exit ?_ | refine andThen_ret ?_ | refine inBlock_normal ?_ | refine inBlock_ret ?_ | refine inBlock_here ?_ | refine inBlock_out rfl ?_ | refine LWp.seq ?_ | refine LWp.region ?_ | refine LWp.block ?_ | refine LWp.exit ?_ | refine LWp.ret ?_ | refine LWp.skip ?_ | refine LOps.valA ?_ | refine LOps.outA ?_ | refine LOps.whenA ?_ | refine LOps.pickA ?_)
        refine LOps.do0 (LDo.store hD rfl rfl hb rfl rfl rfl (by rw [Nat.ble_eq]; show 513 + 1 ≤ _; rw [rf_len hh hk]; omega)) rfl rfl ?_
        rintro _ S9 ⟨rfl, hS9⟩
        replace hS9 := hS9.trans (congrArg (LS.setBox _ w) (rf_sk hh hk 48))
        refine LOps.gen (fun S' => S'.box w = some (rfL (hs.set c false) kd (l.length - 1) 48) ∧ MvF S (fun x => x = w) S' (fun x => x = w)) (by rw [hS9]; exact ⟨box_set _ _ _, mv.trans (.own _ _ _)⟩) ?_
        clear hb mv hS9
        rintro S9 ⟨hb, mv⟩
        repeat (first | refine LOps.nil ?_ | refine andThen_normal ?_ | refine andThen_exit ?_ | refine andThen_ret ?_ | refine inBlock_normal ?_ | refine inBlock_ret ?_ | refine inBlock_here ?_ | refine inBlock_out rfl ?_ | refine LWp.seq ?_ | refine LWp.region ?_ | refine LWp.block ?_ | refine LWp.exit ?_ | refine LWp.ret ?_ | refine LWp.skip ?_ | refine LOps.valA ?_ | refine LOps.outA ?_ | refine LOps.whenA ?_ | refine LOps.pickA ?_ | refine LOps.storeA ?_)
        exact ⟨_, LRes.one rfl, rfl, ⟨_, _, by rw [e2]; exact hb, hoff⟩, mv⟩
      · have hq2 : ((((256 : Nat) : Int) == 256) && decide (((l.length - 1 : Nat) : Int) ≤ 36)) = false := hq2
        have h4 : ¬ l.length - 1 ≤ 36 := by simp at hq2; omega
        have e3 : shrinkK 256 (l.length - 1) = 256 := by unfold shrinkK; simp [h4]
        rw [e3]
        repeat (first | refine LOps.valH (r := .one (iv (256 : Nat))) (LVal.load hD rfl rfl hb rfl (rd_one rfl (rf_k hh hk))) ?_ | refine LOps.whenC (r := .one (iv (l.length - 1 : Nat))) (LVal.load hD rfl rfl hb rfl (rd_one rfl (rf_n hh hk))) ?_ | refine LWp.condF rfl ?_ | refine LOps.nil ?_ | refine andThen_normal ?_ | refine andThen_exit ?_ | refine andThen_ret ?_ | refine inBlock_normal ?_ | refine inBlock_ret ?_ | refine inBlock_here ?_ | refine inBlock_out rfl ?_ | refine LWp.seq ?_ | refine LWp.region ?_ | refine LWp.block ?_ | refine LWp.exit ?_ | refine LWp.ret ?_ | refine LWp.skip ?_ | refine LOps.valA ?_ | refine LOps.outA ?_ | refine LOps.whenA ?_ | refine LOps.pickA ?_ | refine LOps.storeA ?_)
        exact ⟨_, LRes.one rfl, rfl, ⟨_, _, by rw [e2]; exact hb, hoff⟩, mv⟩

set_option maxHeartbeats 4000000 in
set_option maxRecDepth 20000 in
theorem rfrom_L {G : Ctx} (hP : G.P = Try.prog) {S : LS} {w k : Nat} {l : Kv Int} (h : Rf S w k l) (b : Int) : LCalls G 16 [ptr w, .one (iv b)] (fun r S' => r = fromI (fromL l b) ∧ S' = S) S := by
  have hD : TabOK G.P D := by rw [hP]; exact hD0
  obtain ⟨hs, kd, hb, h⟩ := h
  have hh := h.hh
  have hk := h.hk
  have ks := h.ks
  refine LCalls.enter (fn := Try.f16) (by rw [hP]; exact Try.func16) rfl rfl ?_
  repeat (first | refine LOps.nil ?_ | refine andThen_normal ?_ | refine andThen_exit ?_ | refine andThen_ret ?_ | refine inBlock_normal ?_ | refine inBlock_ret ?_ | refine inBlock_here ?_ | refine inBlock_out rfl ?_ | refine LWp.seq ?_ | refine LWp.region ?_ | refine LWp.block ?_ | refine LWp.exit ?_ | refine LWp.ret ?_ | refine LWp.skip ?_ | refine LOps.valA ?_ | refine LOps.outA ?_ | refine LOps.whenA ?_ | refine LOps.pickA ?_ | refine LOps.storeA ?_)
  refine LWp.loop (fun m T S' => S' = S ∧ ∃ (T' : Nat → TV) (j : Nat), j ≤ 256 ∧ m = 256 - j ∧ (∀ k : Nat, k < j → b ≤ (k : Int) → lk l k = none) ∧ T = over T' [(0, ptr w), (1, .one (iv b)), (7, .one (iv (j : Nat)))]) 256 ?_ ?_
  · exact ⟨rfl, _, 0, by omega, rfl, fun k hk _ => by omega, holds.over ⟨rfl, rfl, rfl, trivial⟩⟩
  rintro m T S' ⟨rfl, T', j, hj, rfl, hno, rfl⟩
  repeat (first | refine LOps.nil ?_ | refine andThen_normal ?_ | refine andThen_exit ?_ | refine andThen_ret ?_ | refine inBlock_normal ?_ | refine inBlock_ret ?_ | refine inBlock_here ?_ | refine inBlock_out rfl ?_ | refine LWp.seq ?_ | refine LWp.region ?_ | refine LWp.block ?_ | refine LWp.exit ?_ | refine LWp.ret ?_ | refine LWp.skip ?_ | refine LOps.valA ?_ | refine LOps.outA ?_ | refine LOps.whenA ?_ | refine LOps.pickA ?_ | refine LOps.storeA ?_)
  refine LWp.cond rfl (fun hq => ?_) (fun hq => ?_)
  · have hlt : j < 256 := by have hq : decide ((j : Int) < 256) = true := hq; simp at hq; omega
    have hu := h.has j hlt
    repeat (first | refine LOps.valH (r := .one (.v (.pointer (some ⟨w, j, none⟩)))) (LVal.to (LVal.indexP (m := j) hD rfl rfl rfl rfl rfl rfl (by omega)) (by show TV.one (.v (.pointer (some ⟨w, 0 + j * 1, none⟩))) = _; rw [Nat.mul_one, Nat.zero_add])) ?_ | refine LOps.valH (r := .one (bv (hasK l j))) (LVal.load hD rfl rfl hb rfl (rd_one rfl (rf_has hh hu))) ?_ | refine LOps.nil ?_ | refine andThen_normal ?_ | refine andThen_exit ?_ | refine andThen_ret ?_ | refine inBlock_normal ?_ | refine inBlock_ret ?_ | refine inBlock_here ?_ | refine inBlock_out rfl ?_ | refine LWp.seq ?_ | refine LWp.region ?_ | refine LWp.block ?_ | refine LWp.exit ?_ | refine LWp.ret ?_ | refine LWp.skip ?_ | refine LOps.valA ?_ | refine LOps.outA ?_ | refine LOps.whenA ?_ | refine LOps.pickA ?_ | refine LOps.storeA ?_)
    refine LWp.cond rfl (fun hq => ?_) (fun hq => ?_)
    · have hq : (hasK l j && decide ((j : Int) ≥ b)) = true := hq
      rw [Bool.and_eq_true, decide_eq_true_iff] at hq
      obtain ⟨x, hx⟩ : ∃ x, lk l j = some x := Option.isSome_iff_exists.1 hq.1
      have hkd := h.kid j x hlt hx
      repeat (first | refine LOps.nil ?_ | refine andThen_normal ?_ | refine andThen_exit ?_ | refine andThen_ret ?_ | refine inBlock_normal ?_ | refine inBlock_ret ?_ | refine inBlock_here ?_ | refine inBlock_out rfl ?_ | refine LWp.seq ?_ | refine LWp.region ?_ | refine LWp.block ?_ | refine LWp.exit ?_ | refine LWp.ret ?_ | refine LWp.skip ?_ | refine LOps.valA ?_ | refine LOps.outA ?_ | refine LOps.whenA ?_ | refine LOps.pickA ?_ | refine LOps.storeA ?_)
      refine LWp.drawL [0, 1, 2, 3, 4, 5, 6, 7, 8, 9, 10] (by rw [hP]; rfl) rfl ?_
      repeat (first | refine LRl.val (r := .one (uv (j : Nat))) (fun _ _ => LVal.to (LVal.convInt hD rfl rfl rfl rfl rfl) (by rw [rf_wrap8 (n := j) hlt])) rfl rfl rfl ?_ | refine LRl.val (r := .one (.v (.pointer (some ⟨w, 256 + j, none⟩)))) (fun _ _ => LVal.to (LVal.indexP (m := j) hD rfl rfl rfl rfl rfl rfl (by omega)) (by show TV.one (.v (.pointer (some ⟨w, 256 + j * 1, none⟩))) = _; rw [Nat.mul_one])) rfl rfl rfl ?_ | refine LRl.val (r := .one (iv x)) (fun _ hS => LVal.load hD rfl rfl (hS.box _ _ hb id) rfl (rd_one rfl (rf_kid hh hkd))) rfl rfl rfl ?_ | refine LRl.nil ?_ | refine LRl.valA ?_ | refine LRl.outA ?_ | refine LRl.whenA ?_ | refine LRl.pickA ?_)
      repeat (first | refine LOps.nil ?_ | refine andThen_normal ?_ | refine andThen_exit ?_ | refine andThen_ret ?_ | refine inBlock_normal ?_ | refine inBlock_ret ?_ | refine inBlock_here ?_ | refine inBlock_out rfl ?_ | refine LWp.seq ?_ | refine LWp.region ?_ | refine LWp.block ?_ | refine LWp.exit ?_ | refine LWp.ret ?_ | refine LWp.skip ?_ | refine LOps.valA ?_ | refine LOps.outA ?_ | refine LOps.whenA ?_ | refine LOps.pickA ?_ | refine LOps.storeA ?_)
      refine ⟨_, LRes.three rfl, ?_, rfl⟩
      rw [fromL_tab ks hq.2 hx hno]; rfl
    · have hq : (hasK l j && decide ((j : Int) ≥ b)) = false := hq
      repeat (first | refine LOps.nil ?_ | refine andThen_normal ?_ | refine andThen_exit ?_ | refine andThen_ret ?_ | refine inBlock_normal ?_ | refine inBlock_ret ?_ | refine inBlock_here ?_ | refine inBlock_out rfl ?_ | refine LWp.seq ?_ | refine LWp.region ?_ | refine LWp.block ?_ | refine LWp.exit ?_ | refine LWp.ret ?_ | refine LWp.skip ?_ | refine LOps.valA ?_ | refine LOps.outA ?_ | refine LOps.whenA ?_ | refine LOps.pickA ?_ | refine LOps.storeA ?_)
      refine ⟨256 - (j + 1), by omega, rfl, _, j + 1, by omega, rfl, fun k hk hbk => ?_, holds.over ⟨rfl, rfl, rfl, trivial⟩⟩
      rcases Nat.lt_or_ge k j with h3 | h3
      · exact hno k h3 hbk
      · obtain rfl : k = j := by omega
        rw [decide_eq_true (show (k : Int) ≥ b from hbk), Bool.and_true] at hq
        simpa [hasK] using hq
  · have hge : 256 ≤ j := by have hq : decide ((j : Int) < 256) = false := hq; simp at hq; omega
    repeat (first | refine LOps.nil ?_ | refine andThen_normal ?_ | refine andThen_exit ?_ | refine andThen_ret ?_ | refine inBlock_normal ?_ | refine inBlock_ret ?_ | refine inBlock_here ?_ | refine inBlock_out rfl ?_ | refine LWp.seq ?_ | refine LWp.region ?_ | refine LWp.block ?_ | refine LWp.exit ?_ | refine LWp.ret ?_ | refine LWp.skip ?_ | refine LOps.valA ?_ | refine LOps.outA ?_ | refine LOps.whenA ?_ | refine LOps.pickA ?_ | refine LOps.storeA ?_)
    refine ⟨_, LRes.three rfl, ?_, rfl⟩
    rw [fromL_tab_none ks fun k hk hbk => hno k (by omega) hbk]; rfl
end Go.Proofs.Ytinbibeapooghaa.LF
