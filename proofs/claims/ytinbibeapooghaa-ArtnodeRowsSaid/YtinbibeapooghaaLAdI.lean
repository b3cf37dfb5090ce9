/- Children in tables: an index and its places (up to 48), a place for each byte, of type int: get, set, drop, from. (Printed by gen_ad.py and gen_art.py.) -/
import Derived.Test.YtinbibeapooghaaLAcI
import Derived.Test.YtinbibeapooghaaLAn
set_option linter.unusedVariables false
set_option linter.unusedSimpArgs false
namespace Go.Proofs.Ytinbibeapooghaa.LF
open Go.RowKit
set_option linter.unusedVariables false
attribute [local irreducible] andThen inBlock LWp LOps LCalls

def ixLI (pl : List Nat) (kd : List Int) (us : List Bool) : List LV := pl.map (fun n => uv (n : Nat)) ++ (kd.map (fun x => iv x) ++ us.map fun u => bv u)
def drLI (kd : List Int) (hs : List Bool) : List LV := kd.map (fun x => iv x) ++ hs.map fun u => bv u
def IxI (S : LS) (bs : Nat) (l : Kv Int) : Prop := ∃ pl kd us, S.box bs = some (ixLI pl kd us) ∧ IxOK pl kd us l
def DrI (S : LS) (bs : Nat) (l : Kv Int) : Prop := ∃ kd hs, S.box bs = some (drLI kd hs) ∧ DrOK 0 kd hs l

section
variable {pl : List Nat} {kd : List Int} {us : List Bool} {l : Kv Int}
theorem ixI_len (h : IxOK pl kd us l) : (ixLI pl kd us).length = 352 := by simp [ixLI, h.hp, h.hk, h.hu]
theorem ixI_pl {b p : Nat} (e : pl[b]? = some p) : (ixLI pl kd us)[b]? = some (uv (p : Nat)) := at_first (at_map e)
theorem ixI_kd (h : IxOK pl kd us l) {i : Nat} {x : Int} (e : kd[i]? = some x) : (ixLI pl kd us)[256 + i]? = some (iv x) := at_then (by rw [List.length_map]; exact h.hp) (at_first (at_map e))
theorem ixI_splL {pl : List Nat} {kd : List Int} {us : List Bool} (hp : pl.length = 256) {b : Nat} (hb : b < 256) (v : Nat) : splice (ixLI pl kd us) b [uv (v : Nat)] = ixLI (pl.set b v) kd us := by
  rw [ixLI, set_first (by rw [List.length_map, hp]; exact hb), ixLI, List.map_set]
theorem ixI_skdL {pl : List Nat} {kd : List Int} {us : List Bool} (hp : pl.length = 256) (hk : kd.length = 48) {i : Nat} (hi : i < 48) (x : Int) : splice (ixLI pl kd us) (256 + i) [iv x] = ixLI pl (kd.set i x) us := by
  rw [ixLI, set_then (by rw [List.length_map]; exact hp) (by rw [List.length_append, List.length_map, hk]; omega), List.set_append_left _ _ (by rw [List.length_map, hk]; exact hi), ixLI, List.map_set]
theorem ixI_susL {pl : List Nat} {kd : List Int} {us : List Bool} (hp : pl.length = 256) (hk : kd.length = 48) (hu : us.length = 48) {i : Nat} (hi : i < 48) (u : Bool) : splice (ixLI pl kd us) (304 + i) [bv u] = ixLI pl kd (us.set i u) := by
  rw [show 304 + i = 256 + (48 + i) by omega, ixLI, set_then (by rw [List.length_map]; exact hp) (by rw [List.length_append, List.length_map, List.length_map, hk, hu]; omega), List.set_append_right _ _ (by rw [List.length_map, hk]; omega), List.length_map, hk, ixLI, List.map_set]
  congr 3; omega
theorem ixI_spl (h : IxOK pl kd us l) {b : Nat} (hb : b < 256) (v : Nat) : splice (ixLI pl kd us) b [uv (v : Nat)] = ixLI (pl.set b v) kd us := ixI_splL h.hp hb v
theorem ixI_skd (h : IxOK pl kd us l) {i : Nat} (hi : i < 48) (x : Int) : splice (ixLI pl kd us) (256 + i) [iv x] = ixLI pl (kd.set i x) us := ixI_skdL h.hp h.hk hi x
theorem ixI_part (h : IxOK pl kd us l) : Part (ixLI pl kd us) 304 48 1 (us.map fun u => [bv u]) := by
  have e1 : (ixLI pl kd us).drop 304 = us.map fun u => bv u := by
    rw [ixLI, ← List.append_assoc, List.drop_left']
    rw [List.length_append, List.length_map, List.length_map, h.hp, h.hk]
  have e2 : ∀ us : List Bool, (us.map fun u => [bv u]).flatten = us.map fun u => bv u := fun us => by
    induction us with
    | nil => rfl
    | cons u us ih => rw [List.map_cons, List.flatten_cons, ih]; rfl
  refine ⟨fun e he => ?_, ?_, ?_, ?_⟩
  · obtain ⟨u, _, rfl⟩ := List.mem_map.1 he; rfl
  · rw [e1, e2, List.length_map, h.hu]; exact List.take_of_length_le (by rw [List.length_map, h.hu]; decide)
  · rw [ixI_len h, List.length_map, h.hu]; decide
  · rw [List.length_map, h.hu]; decide
end
section
variable {kd : List Int} {hs : List Bool} {l : Kv Int}
theorem drI_len (h : DrOK 0 kd hs l) : (drLI kd hs).length = 512 := by simp [drLI, h.hk, h.hh]
theorem drI_kd (h : DrOK 0 kd hs l) {b : Nat} (hb : b < 256) : (drLI kd hs)[b]? = some (iv ((lk l b).getD 0)) := at_first (at_map (h.kid b hb))
theorem drI_hs (h : DrOK 0 kd hs l) {b : Nat} (hb : b < 256) : (drLI kd hs)[256 + b]? = some (bv (hasK l b)) := at_then (by rw [List.length_map]; exact h.hk) (at_map (h.has b hb))
theorem drI_skd (h : DrOK 0 kd hs l) {b : Nat} (hb : b < 256) (x : Int) : splice (drLI kd hs) b [iv x] = drLI (kd.set b x) hs := by
  rw [drLI, set_first (by rw [List.length_map, h.hk]; exact hb), drLI, List.map_set]
theorem drI_shs {kd : List Int} {hs : List Bool} (hk : kd.length = 256) (hh : hs.length = 256) {b : Nat} (hb : b < 256) (u : Bool) : splice (drLI kd hs) (256 + b) [bv u] = drLI kd (hs.set b u) := by
  rw [drLI, set_then (by rw [List.length_map]; exact hk) (by rw [List.length_map, hh]; exact hb), drLI, List.map_set]
end
theorem lt_wrap8I {n : Nat} (h : n < 256) : IntKind.u8.wrap ((n : Nat) : Int) = ((n : Nat) : Int) := by rw [IntKind.wrap_u8]; omega
theorem pred_wrap8I {n : Nat} (h : n < 256) : IntKind.u8.wrap ((((n + 1 : Nat) : Nat) : Int) - 1) = ((n : Nat) : Int) := by rw [IntKind.wrap_u8]; omega

set_option maxHeartbeats 2000000 in
theorem ixI_get {G : Ctx} (hP : G.P = Try.prog) {S : LS} {bs : Nat} {l : Kv Int} (h : IxI S bs l) {b : Nat} (hb256 : b < 256) :
    LCalls G 74 [ptr bs, .one (uv (b : Nat))] (fun r S' => r = getI l b ∧ S' = S) S := by
  have hD : TabOK G.P D := by rw [hP]; exact hD0
  obtain ⟨pl, kd, us, hb, h⟩ := h
  refine LCalls.enter (fn := Try.f74) (by rw [hP]; exact Try.func74) rfl rfl ?_
  rcases h.at hb256 with ⟨hp, hk, hn⟩ | ⟨i, x, hp, hi, hu, hx, hl, hk⟩
  · repeat (first | refine LOps.valH (r := .one (.v (.pointer (some ⟨bs, b, none⟩)))) (LVal.to (LVal.indexP (m := b) hD rfl rfl rfl rfl rfl rfl (by omega)) (by show TV.one (.v (.pointer (some ⟨bs, 0 + b * 1, none⟩))) = _; rw [Nat.mul_one, Nat.zero_add])) ?_ | refine LOps.valH (r := .one (uv (0 : Nat))) (LVal.load hD rfl rfl hb rfl (rd_one rfl (ixI_pl hp))) ?_ | refine LOps.nil ?_ | refine andThen_normal ?_ | refine andThen_exit ?_ | refine andThen_ret ?_ | refine inBlock_normal ?_ | refine inBlock_ret ?_ | refine inBlock_here ?_ | refine inBlock_out rfl ?_ | refine LWp.seq ?_ | refine LWp.region ?_ | refine LWp.block ?_ | refine LWp.exit ?_ | refine LWp.ret ?_ | refine LWp.skip ?_ | refine LOps.valA ?_ | refine LOps.outA ?_ | refine LOps.whenA ?_ | refine LOps.pickA ?_ | refine LOps.storeA ?_)
    refine LWp.condF rfl ?_
    repeat (first | refine LOps.nil ?_ | refine andThen_normal ?_ | refine andThen_exit ?_ | refine andThen_ret ?_ | refine inBlock_normal ?_ | refine inBlock_ret ?_ | refine inBlock_here ?_ | refine inBlock_out rfl ?_ | refine LWp.seq ?_ | refine LWp.region ?_ | refine LWp.block ?_ | refine LWp.exit ?_ | refine LWp.ret ?_ | refine LWp.skip ?_ | refine LOps.valA ?_ | refine LOps.outA ?_ | refine LOps.whenA ?_ | refine LOps.pickA ?_ | refine LOps.storeA ?_)
    refine ⟨_, LRes.two rfl, ?_, rfl⟩
    rw [getI, hn, hk]; rfl
  · repeat (first | refine LOps.valH (r := .one (.v (.pointer (some ⟨bs, b, none⟩)))) (LVal.to (LVal.indexP (m := b) hD rfl rfl rfl rfl rfl rfl (by omega)) (by show TV.one (.v (.pointer (some ⟨bs, 0 + b * 1, none⟩))) = _; rw [Nat.mul_one, Nat.zero_add])) ?_ | refine LOps.valH (r := .one (uv (i + 1 : Nat))) (LVal.load hD rfl rfl hb rfl (rd_one rfl (ixI_pl hp))) ?_ | refine LOps.nil ?_ | refine andThen_normal ?_ | refine andThen_exit ?_ | refine andThen_ret ?_ | refine inBlock_normal ?_ | refine inBlock_ret ?_ | refine inBlock_here ?_ | refine inBlock_out rfl ?_ | refine LWp.seq ?_ | refine LWp.region ?_ | refine LWp.block ?_ | refine LWp.exit ?_ | refine LWp.ret ?_ | refine LWp.skip ?_ | refine LOps.valA ?_ | refine LOps.outA ?_ | refine LOps.whenA ?_ | refine LOps.pickA ?_ | refine LOps.storeA ?_)
    refine LWp.cond rfl (fun hh => ?_) (fun hh => ?_)
    · repeat (first | refine LOps.valH (r := .one (uv (i : Nat))) (LVal.to (LVal.binOp hD rfl rfl rfl rfl) (by rw [pred_wrap8I (n := i) (by omega)])) ?_ | refine LOps.valH (r := .one (.v (.pointer (some ⟨bs, 256 + i, none⟩)))) (LVal.to (LVal.indexP (m := i) hD rfl rfl rfl rfl rfl rfl (by omega)) (by show TV.one (.v (.pointer (some ⟨bs, 256 + i * 1, none⟩))) = _; rw [Nat.mul_one])) ?_ | refine LOps.valH (r := .one (iv x)) (LVal.load hD rfl rfl hb rfl (rd_one rfl (ixI_kd h hx))) ?_ | refine LOps.nil ?_ | refine andThen_normal ?_ | refine andThen_exit ?_ | refine andThen_ret ?_ | refine inBlock_normal ?_ | refine inBlock_ret ?_ | refine inBlock_here ?_ | refine inBlock_out rfl ?_ | refine LWp.seq ?_ | refine LWp.region ?_ | refine LWp.block ?_ | refine LWp.exit ?_ | refine LWp.ret ?_ | refine LWp.skip ?_ | refine LOps.valA ?_ | refine LOps.outA ?_ | refine LOps.whenA ?_ | refine LOps.pickA ?_ | refine LOps.storeA ?_)
      refine ⟨_, LRes.two rfl, ?_, rfl⟩
      rw [getI, hl, hk]; rfl
    · have hh : decide (((i + 1 : Nat) : Int) > 0) = false := hh
      simp at hh

set_option maxHeartbeats 4000000 in
set_option maxRecDepth 20000 in
theorem ixI_set {G : Ctx} (hP : G.P = Try.prog) {S : LS} {bs : Nat} {l : Kv Int} (h : IxI S bs l) {b : Nat} (hb256 : b < 256) (x : Int) (hroom : hasK l b = false → l.length < 48) :
    LCalls G 75 [ptr bs, .one (uv (b : Nat)), .one (iv x)] (fun r S' => IxI S' bs (setL l b x) ∧ MvF S (· = bs) S' (· = bs)) S := by
  have hD : TabOK G.P D := by rw [hP]; exact hD0
  obtain ⟨pl, kd, us, hb, h⟩ := h
  refine LCalls.enter (fn := Try.f75) (by rw [hP]; exact Try.func75) rfl rfl ?_
  rcases h.at hb256 with ⟨hp, hk, hn⟩ | ⟨i, y, hp, hi, hu, hx, hl, hk⟩
  · have hr := hroom hk
    obtain ⟨i, hil, hf, hbef⟩ := first_free us (by rw [h.cnt, h.hu]; exact hr)
    have hi : i < 48 := by rw [h.hu] at hil; exact hil
    have hfree := fun (G' : Ctx) (e : G'.P = G.P) => free_F (G := G') (by rw [e]; exact hP) us (by rw [h.hu]; decide) i hil hf hbef
    have hpart := ixI_part h
    repeat (first | refine LOps.valH (r := .one (.v (.pointer (some ⟨bs, b, none⟩)))) (LVal.to (LVal.indexP (m := b) hD rfl rfl rfl rfl rfl rfl (by omega)) (by show TV.one (.v (.pointer (some ⟨bs, 0 + b * 1, none⟩))) = _; rw [Nat.mul_one, Nat.zero_add])) ?_ | refine LOps.valH (r := .one (uv (0 : Nat))) (LVal.load hD rfl rfl hb rfl (rd_one rfl (ixI_pl hp))) ?_ | refine LOps.nil ?_ | refine andThen_normal ?_ | refine andThen_exit ?_ | refine andThen_ret ?_ | refine inBlock_normal ?_ | refine inBlock_ret ?_ | refine inBlock_here ?_ | refine inBlock_out rfl ?_ | refine LWp.seq ?_ | refine LWp.region ?_ | refine LWp.block ?_ | refine LWp.exit ?_ | refine LWp.ret ?_ | refine LWp.skip ?_ | refine LOps.valA ?_ | refine LOps.outA ?_ | refine LOps.whenA ?_ | refine LOps.pickA ?_ | refine LOps.storeA ?_)
    refine LWp.condT rfl ?_
    repeat (first | refine LOps.valH (r := .one (rsl bs 304 48 48)) (LVal.slicePall hD rfl rfl rfl rfl rfl (by decide)) ?_ | refine LOps.nil ?_ | refine andThen_normal ?_ | refine andThen_exit ?_ | refine andThen_ret ?_ | refine inBlock_normal ?_ | refine inBlock_ret ?_ | refine inBlock_here ?_ | refine inBlock_out rfl ?_ | refine LWp.seq ?_ | refine LWp.region ?_ | refine LWp.block ?_ | refine LWp.exit ?_ | refine LWp.ret ?_ | refine LWp.skip ?_ | refine LOps.valA ?_ | refine LOps.outA ?_ | refine LOps.whenA ?_ | refine LOps.pickA ?_ | refine LOps.storeA ?_)
    refine LOps.val (LVal.callAny hfree rfl rfl (by rw [hP]; exact Try.func76) rfl (by decide) ⟨.one (.row bs 304 48 1 _ _ 48 (by rw [List.length_map, h.hu]) hb hpart), .one (.same _), trivial⟩) rfl rfl rfl ?_
    repeat (first | refine LOps.nil ?_ | refine andThen_normal ?_ | refine andThen_exit ?_ | refine andThen_ret ?_ | refine inBlock_normal ?_ | refine inBlock_ret ?_ | refine inBlock_here ?_ | refine inBlock_out rfl ?_ | refine LWp.seq ?_ | refine LWp.region ?_ | refine LWp.block ?_ | refine LWp.exit ?_ | refine LWp.ret ?_ | refine LWp.skip ?_ | refine LOps.valA ?_ | refine LOps.outA ?_ | refine LOps.whenA ?_ | refine LOps.pickA ?_ | refine LOps.storeA ?_)
    refine LWp.drawF (fun _ _ => True) [0, 1, 2, 3, 4, 5, 6, 7, 8, 9, 11, 12, 10, 13, 14] (by rw [hP]; rfl) rfl ?_
    repeat (first | refine LRl.val (r := .one (iv (i + 1 : Nat))) (fun _ _ => LVal.to (LVal.add64 rfl rfl rfl (by omega)) rfl) rfl rfl rfl ?_ | refine LRl.val (r := .one (uv (i + 1 : Nat))) (fun _ _ => LVal.to (LVal.convInt hD rfl rfl rfl rfl rfl) (by rw [lt_wrap8I (n := i + 1) (by omega)])) rfl rfl rfl ?_ | refine LRl.val (r := .one (.v (.pointer (some ⟨bs, b, none⟩)))) (fun _ _ => LVal.to (LVal.indexP (m := b) hD rfl rfl rfl rfl rfl rfl (by omega)) (by show TV.one (.v (.pointer (some ⟨bs, 0 + b * 1, none⟩))) = _; rw [Nat.mul_one, Nat.zero_add])) rfl rfl rfl ?_ | refine LRl.nil ?_ | refine LRl.valA ?_ | refine LRl.outA ?_ | refine LRl.whenA ?_ | refine LRl.pickA ?_)
    refine LRl.actA0 (LDo.store hD rfl rfl hb rfl rfl rfl (by rw [Nat.ble_eq]; show b + 1 ≤ _; rw [ixI_len h]; omega)).toAct rfl rfl rfl (by rintro _ _ ⟨rfl, rfl⟩ q _; exact .inl ⟨fun b cs _ hn => absurd trivial hn, fun _ _ h => h⟩) ?_
    rintro _ S9 ⟨rfl, hS9⟩
    replace hS9 := hS9.trans (congrArg (LS.setBox _ bs) (ixI_spl h hb256 _))
    subst hS9
    have hb2 := box_set S bs (ixLI (pl.set b (i + 1)) kd us)
    have l2 : (ixLI (pl.set b (i + 1)) kd us).length = 352 := by simp [ixLI, h.hp, h.hk, h.hu]
    repeat (first | refine LRl.val (r := .one (.v (.pointer (some ⟨bs, 304 + i, none⟩)))) (fun _ _ => LVal.to (LVal.indexP (m := i) hD rfl rfl rfl rfl rfl rfl (by omega)) (by show TV.one (.v (.pointer (some ⟨bs, 304 + i * 1, none⟩))) = _; rw [Nat.mul_one])) rfl rfl rfl ?_ | refine LRl.nil ?_ | refine LRl.valA ?_ | refine LRl.outA ?_ | refine LRl.whenA ?_ | refine LRl.pickA ?_)
    refine LRl.actA0 (LDo.store hD rfl rfl hb2 rfl rfl rfl (by rw [Nat.ble_eq]; show 304 + i + 1 ≤ _; rw [l2]; omega)).toAct rfl rfl rfl (by rintro _ _ ⟨rfl, rfl⟩ q _; exact .inl ⟨fun b cs _ hn => absurd trivial hn, fun _ _ h => h⟩) ?_
    rintro _ S9 ⟨rfl, hS9⟩
    replace hS9 := hS9.trans (congrArg (LS.setBox _ bs) (show splice (ixLI (pl.set b (i + 1)) kd us) (304 + i) [bv true] = ixLI (pl.set b (i + 1)) kd (us.set i true) from ixI_susL (by rw [List.length_set]; exact h.hp) h.hk h.hu hi true))
    subst hS9
    have hb3 := box_set (S.setBox bs (ixLI (pl.set b (i + 1)) kd us)) bs (ixLI (pl.set b (i + 1)) kd (us.set i true))
    have l3 : (ixLI (pl.set b (i + 1)) kd (us.set i true)).length = 352 := by simp [ixLI, h.hp, h.hk, h.hu]
    repeat (first | refine LRl.nil ?_ | refine LRl.valA ?_ | refine LRl.outA ?_ | refine LRl.whenA ?_ | refine LRl.pickA ?_)
    repeat (first | refine LOps.valH (r := .one (.v (.pointer (some ⟨bs, 256 + i, none⟩)))) (LVal.to (LVal.indexP (m := i) hD rfl rfl rfl rfl rfl rfl (by omega)) (by show TV.one (.v (.pointer (some ⟨bs, 256 + i * 1, none⟩))) = _; rw [Nat.mul_one])) ?_ | refine LOps.nil ?_ | refine andThen_normal ?_ | refine andThen_exit ?_ | refine andThen_ret ?_ | refine inBlock_normal ?_ | refine inBlock_ret ?_ | refine inBlock_here ?_ | refine inBlock_out rfl ?_ | refine LWp.seq ?_ | refine LWp.region ?_ | refine LWp.block ?_ | refine LWp.exit ?_ | refine LWp.ret ?_ | refine LWp.skip ?_ | refine LOps.valA ?_ | refine LOps.outA ?_ | refine LOps.whenA ?_ | refine LOps.pickA ?_ | refine LOps.storeA ?_)
    refine LOps.do0 (LDo.store hD rfl rfl hb3 rfl rfl rfl (by rw [Nat.ble_eq]; show 256 + i + 1 ≤ _; rw [l3]; omega)) rfl rfl ?_
    rintro _ S9 ⟨rfl, hS9⟩
    replace hS9 := hS9.trans (congrArg (LS.setBox _ bs) (show splice (ixLI (pl.set b (i + 1)) kd (us.set i true)) (256 + i) [iv x] = ixLI (pl.set b (i + 1)) (kd.set i x) (us.set i true) from ixI_skdL (by rw [List.length_set]; exact h.hp) h.hk hi x))
    subst hS9
    repeat (first | refine LOps.nil ?_ | refine andThen_normal ?_ | refine andThen_exit ?_ | refine andThen_ret ?_ | refine inBlock_normal ?_ | refine inBlock_ret ?_ | refine inBlock_here ?_ | refine inBlock_out rfl ?_ | refine LWp.seq ?_ | refine LWp.region ?_ | refine LWp.block ?_ | refine LWp.exit ?_ | refine LWp.ret ?_ | refine LWp.skip ?_ | refine LOps.valA ?_ | refine LOps.outA ?_ | refine LOps.whenA ?_ | refine LOps.pickA ?_ | refine LOps.storeA ?_)
    exact ⟨_, LRes.none rfl, ⟨_, _, _, box_set _ _ _, h.new hb256 hp (by rw [List.getElem?_eq_getElem hil, hf]) x⟩, ((MvF.own _ _ _).trans (.own _ _ _)).trans (.own _ _ _)⟩
  · have hw : IntKind.i64.wrap ((i + 1 : Nat) : Int) = ((i + 1 : Nat) : Int) := wrap64_small (by omega)
    repeat (first | refine LOps.valH (r := .one (.v (.pointer (some ⟨bs, b, none⟩)))) (LVal.to (LVal.indexP (m := b) hD rfl rfl rfl rfl rfl rfl (by omega)) (by show TV.one (.v (.pointer (some ⟨bs, 0 + b * 1, none⟩))) = _; rw [Nat.mul_one, Nat.zero_add])) ?_ | refine LOps.valH (r := .one (uv (i + 1 : Nat))) (LVal.load hD rfl rfl hb rfl (rd_one rfl (ixI_pl hp))) ?_ | refine LOps.valH (r := .one (iv (i + 1 : Nat))) (LVal.to (LVal.convInt hD rfl rfl rfl rfl rfl) (by rw [hw])) ?_ | refine LOps.valH (r := .one (iv (i : Nat))) (LVal.to (LVal.sub64 rfl rfl rfl (by omega)) (by rw [show ((i + 1 : Nat) : Int) - 1 = (i : Int) by omega])) ?_ | refine LOps.nil ?_ | refine andThen_normal ?_ | refine andThen_exit ?_ | refine andThen_ret ?_ | refine inBlock_normal ?_ | refine inBlock_ret ?_ | refine inBlock_here ?_ | refine inBlock_out rfl ?_ | refine LWp.seq ?_ | refine LWp.region ?_ | refine LWp.block ?_ | refine LWp.exit ?_ | refine LWp.ret ?_ | refine LWp.skip ?_ | refine LOps.valA ?_ | refine LOps.outA ?_ | refine LOps.whenA ?_ | refine LOps.pickA ?_ | refine LOps.storeA ?_)
    refine LWp.cond rfl (fun hh => ?_) (fun hh => ?_)
    · have hh : decide ((i : Int) < 0) = true := hh
      simp at hh; omega
    repeat (first | refine LOps.valH (r := .one (.v (.pointer (some ⟨bs, 256 + i, none⟩)))) (LVal.to (LVal.indexP (m := i) hD rfl rfl rfl rfl rfl rfl (by omega)) (by show TV.one (.v (.pointer (some ⟨bs, 256 + i * 1, none⟩))) = _; rw [Nat.mul_one])) ?_ | refine LOps.nil ?_ | refine andThen_normal ?_ | refine andThen_exit ?_ | refine andThen_ret ?_ | refine inBlock_normal ?_ | refine inBlock_ret ?_ | refine inBlock_here ?_ | refine inBlock_out rfl ?_ | refine LWp.seq ?_ | refine LWp.region ?_ | refine LWp.block ?_ | refine LWp.exit ?_ | refine LWp.ret ?_ | refine LWp.skip ?_ | refine LOps.valA ?_ | refine LOps.outA ?_ | refine LOps.whenA ?_ | refine LOps.pickA ?_ | refine LOps.storeA ?_)
    refine LOps.do0 (LDo.store hD rfl rfl hb rfl rfl rfl (by rw [Nat.ble_eq]; show 256 + i + 1 ≤ _; rw [ixI_len h]; omega)) rfl rfl ?_
    rintro _ S9 ⟨rfl, hS9⟩
    replace hS9 := hS9.trans (congrArg (LS.setBox _ bs) (ixI_skd h hi _))
    subst hS9
    repeat (first | refine LOps.nil ?_ | refine andThen_normal ?_ | refine andThen_exit ?_ | refine andThen_ret ?_ | refine inBlock_normal ?_ | refine inBlock_ret ?_ | refine inBlock_here ?_ | refine inBlock_out rfl ?_ | refine LWp.seq ?_ | refine LWp.region ?_ | refine LWp.block ?_ | refine LWp.exit ?_ | refine LWp.ret ?_ | refine LWp.skip ?_ | refine LOps.valA ?_ | refine LOps.outA ?_ | refine LOps.whenA ?_ | refine LOps.pickA ?_ | refine LOps.storeA ?_)
    exact ⟨_, LRes.none rfl, ⟨_, _, _, box_set _ _ _, h.over hb256 hp x⟩, .own _ _ _⟩

set_option maxHeartbeats 4000000 in
set_option maxRecDepth 20000 in
theorem ixI_drop {G : Ctx} (hP : G.P = Try.prog) {S : LS} {bs : Nat} {l : Kv Int} (h : IxI S bs l) {b : Nat} (hb256 : b < 256) (hk : hasK l b = true) :
    LCalls G 72 [ptr bs, .one (uv (b : Nat))] (fun r S' => IxI S' bs (delL l b) ∧ MvF S (· = bs) S' (· = bs)) S := by
  have hD : TabOK G.P D := by rw [hP]; exact hD0
  obtain ⟨pl, kd, us, hb, h⟩ := h
  obtain ⟨i, x, hp, hi, hu, hx, hl⟩ : ∃ i x, pl[b]? = some (i + 1) ∧ i < 48 ∧ us[i]? = some true ∧ kd[i]? = some x ∧ lk l b = some x := by
    rcases h.at hb256 with ⟨_, h2, _⟩ | ⟨i, x, h1, h2, h3, h4, h5, _⟩
    · rw [hk] at h2; cases h2
    · exact ⟨i, x, h1, h2, h3, h4, h5⟩
  refine LCalls.enter (fn := Try.f72) (by rw [hP]; exact Try.func72) rfl rfl ?_
  repeat (first | refine LOps.valH (r := .one (.v (.pointer (some ⟨bs, b, none⟩)))) (LVal.to (LVal.indexP (m := b) hD rfl rfl rfl rfl rfl rfl (by omega)) (by show TV.one (.v (.pointer (some ⟨bs, 0 + b * 1, none⟩))) = _; rw [Nat.mul_one, Nat.zero_add])) ?_ | refine LOps.valH (r := .one (uv (i + 1 : Nat))) (LVal.load hD rfl rfl hb rfl (rd_one rfl (ixI_pl hp))) ?_ | refine LOps.nil ?_ | refine andThen_normal ?_ | refine andThen_exit ?_ | refine andThen_ret ?_ | refine inBlock_normal ?_ | refine inBlock_ret ?_ | refine inBlock_here ?_ | refine inBlock_out rfl ?_ | refine LWp.seq ?_ | refine LWp.region ?_ | refine LWp.block ?_ | refine LWp.exit ?_ | refine LWp.ret ?_ | refine LWp.skip ?_ | refine LOps.valA ?_ | refine LOps.outA ?_ | refine LOps.whenA ?_ | refine LOps.pickA ?_ | refine LOps.storeA ?_)
  refine LWp.cond rfl (fun hh => ?_) (fun hh => ?_)
  · repeat (first | refine LOps.valH (r := .one (iv 0)) (LVal.to (LVal.move (.inr rfl)) rfl) ?_ | refine LOps.nil ?_ | refine andThen_normal ?_ | refine andThen_exit ?_ | refine andThen_ret ?_ | refine inBlock_normal ?_ | refine inBlock_ret ?_ | refine inBlock_here ?_ | refine inBlock_out rfl ?_ | refine LWp.seq ?_ | refine LWp.region ?_ | refine LWp.block ?_ | refine LWp.exit ?_ | refine LWp.ret ?_ | refine LWp.skip ?_ | refine LOps.valA ?_ | refine LOps.outA ?_ | refine LOps.whenA ?_ | refine LOps.pickA ?_ | refine LOps.storeA ?_)
    refine LWp.drawF (fun _ _ => True) [0, 1, 2, 3, 4, 5, 6, 7, 8, 9, 10, 13, 14, 17, 18, 11, 12, 15, 16, 19, 20] (by rw [hP]; rfl) rfl ?_
    repeat (first | refine LRl.val (r := .one (uv (i : Nat))) (fun _ _ => LVal.to (LVal.binOp hD rfl rfl rfl rfl) (by rw [pred_wrap8I (n := i) (by omega)])) rfl rfl rfl ?_ | refine LRl.val (r := .one (.v (.pointer (some ⟨bs, 256 + i, none⟩)))) (fun _ _ => LVal.to (LVal.indexP (m := i) hD rfl rfl rfl rfl rfl rfl (by omega)) (by show TV.one (.v (.pointer (some ⟨bs, 256 + i * 1, none⟩))) = _; rw [Nat.mul_one])) rfl rfl rfl ?_ | refine LRl.nil ?_ | refine LRl.valA ?_ | refine LRl.outA ?_ | refine LRl.whenA ?_ | refine LRl.pickA ?_)
    refine LRl.actA0 (LDo.store hD rfl rfl hb rfl rfl rfl (by rw [Nat.ble_eq]; show 256 + i + 1 ≤ _; rw [ixI_len h]; omega)).toAct rfl rfl rfl (by rintro _ _ ⟨rfl, rfl⟩ q _; exact .inl ⟨fun b cs _ hn => absurd trivial hn, fun _ _ h => h⟩) ?_
    rintro _ S9 ⟨rfl, hS9⟩
    replace hS9 := hS9.trans (congrArg (LS.setBox _ bs) (ixI_skd h hi _))
    subst hS9
    have hb2 := box_set S bs (ixLI pl (kd.set i 0) us)
    have l2 : (ixLI pl (kd.set i 0) us).length = 352 := by simp [ixLI, h.hp, h.hk, h.hu]
    repeat (first | refine LRl.val (r := .one (.v (.pointer (some ⟨bs, 304 + i, none⟩)))) (fun _ _ => LVal.to (LVal.indexP (m := i) hD rfl rfl rfl rfl rfl rfl (by omega)) (by show TV.one (.v (.pointer (some ⟨bs, 304 + i * 1, none⟩))) = _; rw [Nat.mul_one])) rfl rfl rfl ?_ | refine LRl.nil ?_ | refine LRl.valA ?_ | refine LRl.outA ?_ | refine LRl.whenA ?_ | refine LRl.pickA ?_)
    refine LRl.actA0 (LDo.store hD rfl rfl hb2 rfl rfl rfl (by rw [Nat.ble_eq]; show 304 + i + 1 ≤ _; rw [l2]; omega)).toAct rfl rfl rfl (by rintro _ _ ⟨rfl, rfl⟩ q _; exact .inl ⟨fun b cs _ hn => absurd trivial hn, fun _ _ h => h⟩) ?_
    rintro _ S9 ⟨rfl, hS9⟩
    replace hS9 := hS9.trans (congrArg (LS.setBox _ bs) (show splice (ixLI pl (kd.set i 0) us) (304 + i) [bv false] = ixLI pl (kd.set i 0) (us.set i false) from ixI_susL h.hp (by rw [List.length_set]; exact h.hk) h.hu hi false))
    subst hS9
    have hb3 := box_set (S.setBox bs (ixLI pl (kd.set i 0) us)) bs (ixLI pl (kd.set i 0) (us.set i false))
    have l3 : (ixLI pl (kd.set i 0) (us.set i false)).length = 352 := by simp [ixLI, h.hp, h.hk, h.hu]
    repeat (first | refine LRl.val (r := .one (.v (.pointer (some ⟨bs, b, none⟩)))) (fun _ _ => LVal.to (LVal.indexP (m := b) hD rfl rfl rfl rfl rfl rfl (by omega)) (by show TV.one (.v (.pointer (some ⟨bs, 0 + b * 1, none⟩))) = _; rw [Nat.mul_one, Nat.zero_add])) rfl rfl rfl ?_ | refine LRl.nil ?_ | refine LRl.valA ?_ | refine LRl.outA ?_ | refine LRl.whenA ?_ | refine LRl.pickA ?_)
    refine LRl.actA0 (LDo.store hD rfl rfl hb3 rfl rfl rfl (by rw [Nat.ble_eq]; show b + 1 ≤ _; rw [l3]; omega)).toAct rfl rfl rfl (by rintro _ _ ⟨rfl, rfl⟩ q _; exact .inl ⟨fun b cs _ hn => absurd trivial hn, fun _ _ h => h⟩) ?_
    rintro _ S9 ⟨rfl, hS9⟩
    replace hS9 := hS9.trans (congrArg (LS.setBox _ bs) (show splice (ixLI pl (kd.set i 0) (us.set i false)) b [uv 0] = ixLI (pl.set b 0) (kd.set i 0) (us.set i false) from ixI_splL h.hp hb256 0))
    subst hS9
    repeat (first | refine LRl.nil ?_ | refine LRl.valA ?_ | refine LRl.outA ?_ | refine LRl.whenA ?_ | refine LRl.pickA ?_)
    repeat (first | refine LOps.nil ?_ | refine andThen_normal ?_ | refine andThen_exit ?_ | refine andThen_ret ?_ | refine inBlock_normal ?_ | refine inBlock_ret ?_ | refine inBlock_here ?_ | refine inBlock_out rfl ?_ | refine LWp.seq ?_ | refine LWp.region ?_ | refine LWp.block ?_ | refine LWp.exit ?_ | refine LWp.ret ?_ | refine LWp.skip ?_ | refine LOps.valA ?_ | refine LOps.outA ?_ | refine LOps.whenA ?_ | refine LOps.pickA ?_ | refine LOps.storeA ?_)
    exact ⟨_, LRes.none rfl, ⟨_, _, _, box_set _ _ _, h.drop hp 0⟩, ((MvF.own _ _ _).trans (.own _ _ _)).trans (.own _ _ _)⟩
  · have hh : decide (((i + 1 : Nat) : Int) > 0) = false := hh
    simp at hh

set_option maxHeartbeats 4000000 in
theorem ixI_from {G : Ctx} (hP : G.P = Try.prog) {S : LS} {bs : Nat} {l : Kv Int} (h : IxI S bs l) (b : Int) :
    LCalls G 73 [ptr bs, .one (iv b)] (fun r S' => r = fromI (fromL l b) ∧ S' = S) S := by
  have hD : TabOK G.P D := by rw [hP]; exact hD0
  obtain ⟨pl, kd, us, hb, h⟩ := h
  have ks := h.ks
  refine LCalls.enter (fn := Try.f73) (by rw [hP]; exact Try.func73) rfl rfl ?_
  repeat (first | refine LOps.valH (LVal.max rfl rfl rfl) ?_ | refine LOps.nil ?_ | refine andThen_normal ?_ | refine andThen_exit ?_ | refine andThen_ret ?_ | refine inBlock_normal ?_ | refine inBlock_ret ?_ | refine inBlock_here ?_ | refine inBlock_out rfl ?_ | refine LWp.seq ?_ | refine LWp.region ?_ | refine LWp.block ?_ | refine LWp.exit ?_ | refine LWp.ret ?_ | refine LWp.skip ?_ | refine LOps.valA ?_ | refine LOps.outA ?_ | refine LOps.whenA ?_ | refine LOps.pickA ?_ | refine LOps.storeA ?_)
  have hmax : (if b < 0 then (0 : Int) else b) = ((b.toNat : Nat) : Int) := by split <;> omega
  rw [hmax]
  refine LWp.loop (fun m T S' => S' = S ∧ ∃ (T' : Nat → TV) (j : Nat), b.toNat ≤ j ∧ m = 256 - j ∧ (∀ k : Nat, k < j → k < 256 → b ≤ (k : Int) → lk l k = none) ∧ T = over T' [(0, ptr bs), (7, .one (iv (j : Nat)))]) (256 - b.toNat) ?_ ?_
  · exact ⟨rfl, _, b.toNat, Nat.le_refl _, rfl, fun k hk _ hb => by omega, holds.over ⟨rfl, rfl, trivial⟩⟩
  rintro m T S' ⟨rfl, T', j, hj, rfl, hno, rfl⟩
  repeat (first | refine LOps.nil ?_ | refine andThen_normal ?_ | refine andThen_exit ?_ | refine andThen_ret ?_ | refine inBlock_normal ?_ | refine inBlock_ret ?_ | refine inBlock_here ?_ | refine inBlock_out rfl ?_ | refine LWp.seq ?_ | refine LWp.region ?_ | refine LWp.block ?_ | refine LWp.exit ?_ | refine LWp.ret ?_ | refine LWp.skip ?_ | refine LOps.valA ?_ | refine LOps.outA ?_ | refine LOps.whenA ?_ | refine LOps.pickA ?_ | refine LOps.storeA ?_)
  refine LWp.cond rfl (fun hh => ?_) (fun hh => ?_)
  · have hlt : j < 256 := by have hh : decide ((j : Int) < 256) = true := hh; simp at hh; omega
    have hbj : b ≤ (j : Int) := by omega
    rcases h.at hlt with ⟨hp, hk, hn⟩ | ⟨i, x, hp, hi, hu, hx, hl, hk⟩
    · repeat (first | refine LOps.valH (r := .one (.v (.pointer (some ⟨bs, j, none⟩)))) (LVal.to (LVal.indexP (m := j) hD rfl rfl rfl rfl rfl rfl (by omega)) (by show TV.one (.v (.pointer (some ⟨bs, 0 + j * 1, none⟩))) = _; rw [Nat.mul_one, Nat.zero_add])) ?_ | refine LOps.valH (r := .one (uv (0 : Nat))) (LVal.load hD rfl rfl hb rfl (rd_one rfl (ixI_pl hp))) ?_ | refine LOps.nil ?_ | refine andThen_normal ?_ | refine andThen_exit ?_ | refine andThen_ret ?_ | refine inBlock_normal ?_ | refine inBlock_ret ?_ | refine inBlock_here ?_ | refine inBlock_out rfl ?_ | refine LWp.seq ?_ | refine LWp.region ?_ | refine LWp.block ?_ | refine LWp.exit ?_ | refine LWp.ret ?_ | refine LWp.skip ?_ | refine LOps.valA ?_ | refine LOps.outA ?_ | refine LOps.whenA ?_ | refine LOps.pickA ?_ | refine LOps.storeA ?_)
      refine LWp.condF rfl ?_
      repeat (first | refine LOps.nil ?_ | refine andThen_normal ?_ | refine andThen_exit ?_ | refine andThen_ret ?_ | refine inBlock_normal ?_ | refine inBlock_ret ?_ | refine inBlock_here ?_ | refine inBlock_out rfl ?_ | refine LWp.seq ?_ | refine LWp.region ?_ | refine LWp.block ?_ | refine LWp.exit ?_ | refine LWp.ret ?_ | refine LWp.skip ?_ | refine LOps.valA ?_ | refine LOps.outA ?_ | refine LOps.whenA ?_ | refine LOps.pickA ?_ | refine LOps.storeA ?_)
      refine ⟨256 - (j + 1), by omega, rfl, _, j + 1, by omega, rfl, fun k hk hk2 hbk => ?_, holds.over ⟨rfl, rfl, trivial⟩⟩
      rcases Nat.lt_or_ge k j with h3 | h3
      · exact hno k h3 hk2 hbk
      · obtain rfl : k = j := by omega
        exact hn
    · repeat (first | refine LOps.valH (r := .one (.v (.pointer (some ⟨bs, j, none⟩)))) (LVal.to (LVal.indexP (m := j) hD rfl rfl rfl rfl rfl rfl (by omega)) (by show TV.one (.v (.pointer (some ⟨bs, 0 + j * 1, none⟩))) = _; rw [Nat.mul_one, Nat.zero_add])) ?_ | refine LOps.valH (r := .one (uv (i + 1 : Nat))) (LVal.load hD rfl rfl hb rfl (rd_one rfl (ixI_pl hp))) ?_ | refine LOps.nil ?_ | refine andThen_normal ?_ | refine andThen_exit ?_ | refine andThen_ret ?_ | refine inBlock_normal ?_ | refine inBlock_ret ?_ | refine inBlock_here ?_ | refine inBlock_out rfl ?_ | refine LWp.seq ?_ | refine LWp.region ?_ | refine LWp.block ?_ | refine LWp.exit ?_ | refine LWp.ret ?_ | refine LWp.skip ?_ | refine LOps.valA ?_ | refine LOps.outA ?_ | refine LOps.whenA ?_ | refine LOps.pickA ?_ | refine LOps.storeA ?_)
      refine LWp.cond rfl (fun hh => ?_) (fun hh => ?_)
      · repeat (first | refine LOps.nil ?_ | refine andThen_normal ?_ | refine andThen_exit ?_ | refine andThen_ret ?_ | refine inBlock_normal ?_ | refine inBlock_ret ?_ | refine inBlock_here ?_ | refine inBlock_out rfl ?_ | refine LWp.seq ?_ | refine LWp.region ?_ | refine LWp.block ?_ | refine LWp.exit ?_ | refine LWp.ret ?_ | refine LWp.skip ?_ | refine LOps.valA ?_ | refine LOps.outA ?_ | refine LOps.whenA ?_ | refine LOps.pickA ?_ | refine LOps.storeA ?_)
        refine LWp.drawL [0, 1, 2, 3, 4, 5, 6, 7, 8, 9, 10, 11] (by rw [hP]; rfl) rfl ?_
        repeat (first | refine LRl.val (r := .one (uv (j : Nat))) (fun _ _ => LVal.to (LVal.convInt hD rfl rfl rfl rfl rfl) (by rw [lt_wrap8I (n := j) hlt])) rfl rfl rfl ?_ | refine LRl.val (r := .one (uv (i : Nat))) (fun _ _ => LVal.to (LVal.binOp hD rfl rfl rfl rfl) (by rw [pred_wrap8I (n := i) (by omega)])) rfl rfl rfl ?_ | refine LRl.val (r := .one (.v (.pointer (some ⟨bs, 256 + i, none⟩)))) (fun _ _ => LVal.to (LVal.indexP (m := i) hD rfl rfl rfl rfl rfl rfl (by omega)) (by show TV.one (.v (.pointer (some ⟨bs, 256 + i * 1, none⟩))) = _; rw [Nat.mul_one])) rfl rfl rfl ?_ | refine LRl.val (r := .one (iv x)) (fun _ hS => LVal.load hD rfl rfl (hS.box _ _ hb id) rfl (rd_one rfl (ixI_kd h hx))) rfl rfl rfl ?_ | refine LRl.nil ?_ | refine LRl.valA ?_ | refine LRl.outA ?_ | refine LRl.whenA ?_ | refine LRl.pickA ?_)
        repeat (first | refine LOps.nil ?_ | refine andThen_normal ?_ | refine andThen_exit ?_ | refine andThen_ret ?_ | refine inBlock_normal ?_ | refine inBlock_ret ?_ | refine inBlock_here ?_ | refine inBlock_out rfl ?_ | refine LWp.seq ?_ | refine LWp.region ?_ | refine LWp.block ?_ | refine LWp.exit ?_ | refine LWp.ret ?_ | refine LWp.skip ?_ | refine LOps.valA ?_ | refine LOps.outA ?_ | refine LOps.whenA ?_ | refine LOps.pickA ?_ | refine LOps.storeA ?_)
        refine ⟨_, LRes.three rfl, ?_, rfl⟩
        rw [fromL_tab ks hbj hl fun k hk hbk => hno k hk (by omega) hbk]; rfl
      · have hh : decide (((i + 1 : Nat) : Int) > 0) = false := hh
        simp at hh
  · have hge : 256 ≤ j := by have hh : decide ((j : Int) < 256) = false := hh; simp at hh; omega
    repeat (first | refine LOps.nil ?_ | refine andThen_normal ?_ | refine andThen_exit ?_ | refine andThen_ret ?_ | refine inBlock_normal ?_ | refine inBlock_ret ?_ | refine inBlock_here ?_ | refine inBlock_out rfl ?_ | refine LWp.seq ?_ | refine LWp.region ?_ | refine LWp.block ?_ | refine LWp.exit ?_ | refine LWp.ret ?_ | refine LWp.skip ?_ | refine LOps.valA ?_ | refine LOps.outA ?_ | refine LOps.whenA ?_ | refine LOps.pickA ?_ | refine LOps.storeA ?_)
    refine ⟨_, LRes.three rfl, ?_, rfl⟩
    rw [fromL_tab_none ks fun k hk hbk => hno k (by omega) hk hbk]; rfl

set_option maxHeartbeats 4000000 in
theorem drI_from {G : Ctx} (hP : G.P = Try.prog) {S : LS} {bs : Nat} {l : Kv Int} (h : DrI S bs l) (b : Int) :
    LCalls G 78 [ptr bs, .one (iv b)] (fun r S' => r = fromI (fromL l b) ∧ S' = S) S := by
  have hD : TabOK G.P D := by rw [hP]; exact hD0
  obtain ⟨kd, hs, hb, h⟩ := h
  have ks := h.ks
  refine LCalls.enter (fn := Try.f78) (by rw [hP]; exact Try.func78) rfl rfl ?_
  repeat (first | refine LOps.valH (LVal.max rfl rfl rfl) ?_ | refine LOps.nil ?_ | refine andThen_normal ?_ | refine andThen_exit ?_ | refine andThen_ret ?_ | refine inBlock_normal ?_ | refine inBlock_ret ?_ | refine inBlock_here ?_ | refine inBlock_out rfl ?_ | refine LWp.seq ?_ | refine LWp.region ?_ | refine LWp.block ?_ | refine LWp.exit ?_ | refine LWp.ret ?_ | refine LWp.skip ?_ | refine LOps.valA ?_ | refine LOps.outA ?_ | refine LOps.whenA ?_ | refine LOps.pickA ?_ | refine LOps.storeA ?_)
  have hmax : (if b < 0 then (0 : Int) else b) = ((b.toNat : Nat) : Int) := by split <;> omega
  rw [hmax]
  refine LWp.loop (fun m T S' => S' = S ∧ ∃ (T' : Nat → TV) (j : Nat), b.toNat ≤ j ∧ m = 256 - j ∧ (∀ k : Nat, k < j → k < 256 → b ≤ (k : Int) → lk l k = none) ∧ T = over T' [(0, ptr bs), (7, .one (iv (j : Nat)))]) (256 - b.toNat) ?_ ?_
  · exact ⟨rfl, _, b.toNat, Nat.le_refl _, rfl, fun k hk _ hb => by omega, holds.over ⟨rfl, rfl, trivial⟩⟩
  rintro m T S' ⟨rfl, T', j, hj, rfl, hno, rfl⟩
  repeat (first | refine LOps.nil ?_ | refine andThen_normal ?_ | refine andThen_exit ?_ | refine andThen_ret ?_ | refine inBlock_normal ?_ | refine inBlock_ret ?_ | refine inBlock_here ?_ | refine inBlock_out rfl ?_ | refine LWp.seq ?_ | refine LWp.region ?_ | refine LWp.block ?_ | refine LWp.exit ?_ | refine LWp.ret ?_ | refine LWp.skip ?_ | refine LOps.valA ?_ | refine LOps.outA ?_ | refine LOps.whenA ?_ | refine LOps.pickA ?_ | refine LOps.storeA ?_)
  refine LWp.cond rfl (fun hh => ?_) (fun hh => ?_)
  · have hlt : j < 256 := by have hh : decide ((j : Int) < 256) = true := hh; simp at hh; omega
    have hbj : b ≤ (j : Int) := by omega
    have hkd := drI_kd h hlt
    have hhs := drI_hs h hlt
    repeat (first | refine LOps.valH (r := .one (.v (.pointer (some ⟨bs, 256 + j, none⟩)))) (LVal.to (LVal.indexP (m := j) hD rfl rfl rfl rfl rfl rfl (by omega)) (by show TV.one (.v (.pointer (some ⟨bs, 256 + j * 1, none⟩))) = _; rw [Nat.mul_one])) ?_ | refine LOps.valH (r := .one (bv (hasK l j))) (LVal.load hD rfl rfl hb rfl (rd_one rfl (hhs))) ?_ | refine LOps.nil ?_ | refine andThen_normal ?_ | refine andThen_exit ?_ | refine andThen_ret ?_ | refine inBlock_normal ?_ | refine inBlock_ret ?_ | refine inBlock_here ?_ | refine inBlock_out rfl ?_ | refine LWp.seq ?_ | refine LWp.region ?_ | refine LWp.block ?_ | refine LWp.exit ?_ | refine LWp.ret ?_ | refine LWp.skip ?_ | refine LOps.valA ?_ | refine LOps.outA ?_ | refine LOps.whenA ?_ | refine LOps.pickA ?_ | refine LOps.storeA ?_)
    refine LWp.cond rfl (fun hh => ?_) (fun hh => ?_)
    · have hk : hasK l j = true := hh
      obtain ⟨x, hx⟩ : ∃ x, lk l j = some x := Option.isSome_iff_exists.1 hk
      rw [hx] at hkd
      repeat (first | refine LOps.nil ?_ | refine andThen_normal ?_ | refine andThen_exit ?_ | refine andThen_ret ?_ | refine inBlock_normal ?_ | refine inBlock_ret ?_ | refine inBlock_here ?_ | refine inBlock_out rfl ?_ | refine LWp.seq ?_ | refine LWp.region ?_ | refine LWp.block ?_ | refine LWp.exit ?_ | refine LWp.ret ?_ | refine LWp.skip ?_ | refine LOps.valA ?_ | refine LOps.outA ?_ | refine LOps.whenA ?_ | refine LOps.pickA ?_ | refine LOps.storeA ?_)
      refine LWp.drawL [0, 1, 2, 3, 4, 5, 6, 7, 8, 9, 10] (by rw [hP]; rfl) rfl ?_
      repeat (first | refine LRl.val (r := .one (uv (j : Nat))) (fun _ _ => LVal.to (LVal.convInt hD rfl rfl rfl rfl rfl) (by rw [lt_wrap8I (n := j) hlt])) rfl rfl rfl ?_ | refine LRl.val (r := .one (.v (.pointer (some ⟨bs, j, none⟩)))) (fun _ _ => LVal.to (LVal.indexP (m := j) hD rfl rfl rfl rfl rfl rfl (by omega)) (by show TV.one (.v (.pointer (some ⟨bs, 0 + j * 1, none⟩))) = _; rw [Nat.mul_one, Nat.zero_add])) rfl rfl rfl ?_ | refine LRl.val (r := .one (iv x)) (fun _ hS => LVal.load hD rfl rfl (hS.box _ _ hb id) rfl (rd_one rfl (hkd))) rfl rfl rfl ?_ | refine LRl.nil ?_ | refine LRl.valA ?_ | refine LRl.outA ?_ | refine LRl.whenA ?_ | refine LRl.pickA ?_)
      repeat (first | refine LOps.nil ?_ | refine andThen_normal ?_ | refine andThen_exit ?_ | refine andThen_ret ?_ | refine inBlock_normal ?_ | refine inBlock_ret ?_ | refine inBlock_here ?_ | refine inBlock_out rfl ?_ | refine LWp.seq ?_ | refine LWp.region ?_ | refine LWp.block ?_ | refine LWp.exit ?_ | refine LWp.ret ?_ | refine LWp.skip ?_ | refine LOps.valA ?_ | refine LOps.outA ?_ | refine LOps.whenA ?_ | refine LOps.pickA ?_ | refine LOps.storeA ?_)
      refine ⟨_, LRes.three rfl, ?_, rfl⟩
      rw [fromL_tab ks hbj hx fun k hk hbk => hno k hk (by omega) hbk]; rfl
    · have hk : hasK l j = false := hh
      have hn : lk l j = none := by simpa [hasK] using hk
      repeat (first | refine LOps.nil ?_ | refine andThen_normal ?_ | refine andThen_exit ?_ | refine andThen_ret ?_ | refine inBlock_normal ?_ | refine inBlock_ret ?_ | refine inBlock_here ?_ | refine inBlock_out rfl ?_ | refine LWp.seq ?_ | refine LWp.region ?_ | refine LWp.block ?_ | refine LWp.exit ?_ | refine LWp.ret ?_ | refine LWp.skip ?_ | refine LOps.valA ?_ | refine LOps.outA ?_ | refine LOps.whenA ?_ | refine LOps.pickA ?_ | refine LOps.storeA ?_)
      refine ⟨256 - (j + 1), by omega, rfl, _, j + 1, by omega, rfl, fun k hk hk2 hbk => ?_, holds.over ⟨rfl, rfl, trivial⟩⟩
      rcases Nat.lt_or_ge k j with h3 | h3
      · exact hno k h3 hk2 hbk
      · obtain rfl : k = j := by omega
        exact hn
  · have hge : 256 ≤ j := by have hh : decide ((j : Int) < 256) = false := hh; simp at hh; omega
    repeat (first | refine LOps.nil ?_ | refine andThen_normal ?_ | refine andThen_exit ?_ | refine andThen_ret ?_ | refine inBlock_normal ?_ | refine inBlock_ret ?_ | refine inBlock_here ?_ | refine inBlock_out rfl ?_ | refine LWp.seq ?_ | refine LWp.region ?_ | refine LWp.block ?_ | refine LWp.exit ?_ | refine LWp.ret ?_ | refine LWp.skip ?_ | refine LOps.valA ?_ | refine LOps.outA ?_ | refine LOps.whenA ?_ | refine LOps.pickA ?_ | refine LOps.storeA ?_)
    refine ⟨_, LRes.three rfl, ?_, rfl⟩
    rw [fromL_tab_none ks fun k hk hbk => hno k (by omega) hk hbk]; rfl

set_option maxHeartbeats 2000000 in
theorem drI_get {G : Ctx} (hP : G.P = Try.prog) {S : LS} {bs : Nat} {l : Kv Int} (h : DrI S bs l) {b : Nat} (hb256 : b < 256) :
    LCalls G 79 [ptr bs, .one (uv (b : Nat))] (fun r S' => r = getI l b ∧ S' = S) S := by
  have hD : TabOK G.P D := by rw [hP]; exact hD0
  obtain ⟨kd, hs, hb, h⟩ := h
  have hkd := drI_kd h hb256
  have hhs := drI_hs h hb256
  refine LCalls.enter (fn := Try.f79) (by rw [hP]; exact Try.func79) rfl rfl ?_
  repeat (first | refine LOps.nil ?_ | refine andThen_normal ?_ | refine andThen_exit ?_ | refine andThen_ret ?_ | refine inBlock_normal ?_ | refine inBlock_ret ?_ | refine inBlock_here ?_ | refine inBlock_out rfl ?_ | refine LWp.seq ?_ | refine LWp.region ?_ | refine LWp.block ?_ | refine LWp.exit ?_ | refine LWp.ret ?_ | refine LWp.skip ?_ | refine LOps.valA ?_ | refine LOps.outA ?_ | refine LOps.whenA ?_ | refine LOps.pickA ?_ | refine LOps.storeA ?_)
  refine LWp.drawL [0, 1, 2, 3, 4, 5, 6, 7, 8, 9, 10, 11, 12, 13] (by rw [hP]; rfl) rfl ?_
  repeat (first | refine LRl.val (r := .one (.v (.pointer (some ⟨bs, b, none⟩)))) (fun _ _ => LVal.to (LVal.indexP (m := b) hD rfl rfl rfl rfl rfl rfl (by omega)) (by show TV.one (.v (.pointer (some ⟨bs, 0 + b * 1, none⟩))) = _; rw [Nat.mul_one, Nat.zero_add])) rfl rfl rfl ?_ | refine LRl.val (r := .one (.v (.pointer (some ⟨bs, 256 + b, none⟩)))) (fun _ _ => LVal.to (LVal.indexP (m := b) hD rfl rfl rfl rfl rfl rfl (by omega)) (by show TV.one (.v (.pointer (some ⟨bs, 256 + b * 1, none⟩))) = _; rw [Nat.mul_one])) rfl rfl rfl ?_ | refine LRl.val (r := .one (iv ((lk l b).getD 0))) (fun _ hS => LVal.load hD rfl rfl (hS.box _ _ hb id) rfl (rd_one rfl (hkd))) rfl rfl rfl ?_ | refine LRl.val (r := .one (bv (hasK l b))) (fun _ hS => LVal.load hD rfl rfl (hS.box _ _ hb id) rfl (rd_one rfl (hhs))) rfl rfl rfl ?_ | refine LRl.nil ?_ | refine LRl.valA ?_ | refine LRl.outA ?_ | refine LRl.whenA ?_ | refine LRl.pickA ?_)
  repeat (first | refine LOps.nil ?_ | refine andThen_normal ?_ | refine andThen_exit ?_ | refine andThen_ret ?_ | refine inBlock_normal ?_ | refine inBlock_ret ?_ | refine inBlock_here ?_ | refine inBlock_out rfl ?_ | refine LWp.seq ?_ | refine LWp.region ?_ | refine LWp.block ?_ | refine LWp.exit ?_ | refine LWp.ret ?_ | refine LWp.skip ?_ | refine LOps.valA ?_ | refine LOps.outA ?_ | refine LOps.whenA ?_ | refine LOps.pickA ?_ | refine LOps.storeA ?_)
  exact ⟨_, LRes.two rfl, rfl, rfl⟩

set_option maxHeartbeats 2000000 in
set_option maxRecDepth 20000 in
theorem drI_set {G : Ctx} (hP : G.P = Try.prog) {S : LS} {bs : Nat} {l : Kv Int} (h : DrI S bs l) {b : Nat} (hb256 : b < 256) (x : Int) :
    LCalls G 80 [ptr bs, .one (uv (b : Nat)), .one (iv x)] (fun r S' => DrI S' bs (setL l b x) ∧ MvF S (· = bs) S' (· = bs)) S := by
  have hD : TabOK G.P D := by rw [hP]; exact hD0
  obtain ⟨kd, hs, hb, h⟩ := h
  refine LCalls.enter (fn := Try.f80) (by rw [hP]; exact Try.func80) rfl rfl ?_
  repeat (first | refine LOps.valH (r := .one (iv 0)) (LVal.to (LVal.move (.inr rfl)) rfl) ?_ | refine LOps.nil ?_ | refine andThen_normal ?_ | refine andThen_exit ?_ | refine andThen_ret ?_ | refine inBlock_normal ?_ | refine inBlock_ret ?_ | refine inBlock_here ?_ | refine inBlock_out rfl ?_ | refine LWp.seq ?_ | refine LWp.region ?_ | refine LWp.block ?_ | refine LWp.exit ?_ | refine LWp.ret ?_ | refine LWp.skip ?_ | refine LOps.valA ?_ | refine LOps.outA ?_ | refine LOps.whenA ?_ | refine LOps.pickA ?_ | refine LOps.storeA ?_)
  refine LWp.drawF (fun _ _ => True) [0, 1, 2, 3, 4, 5, 6, 9, 10, 7, 8, 11, 12] (by rw [hP]; rfl) rfl ?_
  repeat (first | refine LRl.val (r := .one (.v (.pointer (some ⟨bs, b, none⟩)))) (fun _ _ => LVal.to (LVal.indexP (m := b) hD rfl rfl rfl rfl rfl rfl (by omega)) (by show TV.one (.v (.pointer (some ⟨bs, 0 + b * 1, none⟩))) = _; rw [Nat.mul_one, Nat.zero_add])) rfl rfl rfl ?_ | refine LRl.nil ?_ | refine LRl.valA ?_ | refine LRl.outA ?_ | refine LRl.whenA ?_ | refine LRl.pickA ?_)
  refine LRl.actA0 (LDo.store hD rfl rfl hb rfl rfl rfl (by rw [Nat.ble_eq]; show b + 1 ≤ _; rw [drI_len h]; omega)).toAct rfl rfl rfl (by rintro _ _ ⟨rfl, rfl⟩ q _; exact .inl ⟨fun b cs _ hn => absurd trivial hn, fun _ _ h => h⟩) ?_
  rintro _ S9 ⟨rfl, hS9⟩
  replace hS9 := hS9.trans (congrArg (LS.setBox _ bs) (drI_skd h hb256 _))
  subst hS9
  have hb2 := box_set S bs (drLI (kd.set b x) hs)
  have l2 : (drLI (kd.set b x) hs).length = 512 := by simp [drLI, h.hk, h.hh]
  repeat (first | refine LRl.val (r := .one (.v (.pointer (some ⟨bs, 256 + b, none⟩)))) (fun _ _ => LVal.to (LVal.indexP (m := b) hD rfl rfl rfl rfl rfl rfl (by omega)) (by show TV.one (.v (.pointer (some ⟨bs, 256 + b * 1, none⟩))) = _; rw [Nat.mul_one])) rfl rfl rfl ?_ | refine LRl.nil ?_ | refine LRl.valA ?_ | refine LRl.outA ?_ | refine LRl.whenA ?_ | refine LRl.pickA ?_)
  refine LRl.actA0 (LDo.store hD rfl rfl hb2 rfl rfl rfl (by rw [Nat.ble_eq]; show 256 + b + 1 ≤ _; rw [l2]; omega)).toAct rfl rfl rfl (by rintro _ _ ⟨rfl, rfl⟩ q _; exact .inl ⟨fun b cs _ hn => absurd trivial hn, fun _ _ h => h⟩) ?_
  rintro _ S9 ⟨rfl, hS9⟩
  replace hS9 := hS9.trans (congrArg (LS.setBox _ bs) (show splice (drLI (kd.set b x) hs) (256 + b) [bv true] = drLI (kd.set b x) (hs.set b true) from drI_shs (by rw [List.length_set]; exact h.hk) h.hh hb256 true))
  subst hS9
  repeat (first | refine LRl.nil ?_ | refine LRl.valA ?_ | refine LRl.outA ?_ | refine LRl.whenA ?_ | refine LRl.pickA ?_)
  repeat (first | refine LOps.nil ?_ | refine andThen_normal ?_ | refine andThen_exit ?_ | refine andThen_ret ?_ | refine inBlock_normal ?_ | refine inBlock_ret ?_ | refine inBlock_here ?_ | refine inBlock_out rfl ?_ | refine LWp.seq ?_ | refine LWp.region ?_ | refine LWp.block ?_ | refine LWp.exit ?_ | refine LWp.ret ?_ | refine LWp.skip ?_ | refine LOps.valA ?_ | refine LOps.outA ?_ | refine LOps.whenA ?_ | refine LOps.pickA ?_ | refine LOps.storeA ?_)
  exact ⟨_, LRes.none rfl, ⟨_, _, box_set _ _ _, h.set hb256 x⟩, (MvF.own _ _ _).trans (.own _ _ _)⟩

set_option maxHeartbeats 2000000 in
set_option maxRecDepth 20000 in
theorem drI_drop {G : Ctx} (hP : G.P = Try.prog) {S : LS} {bs : Nat} {l : Kv Int} (h : DrI S bs l) {b : Nat} (hb256 : b < 256) :
    LCalls G 77 [ptr bs, .one (uv (b : Nat))] (fun r S' => DrI S' bs (delL l b) ∧ MvF S (· = bs) S' (· = bs)) S := by
  have hD : TabOK G.P D := by rw [hP]; exact hD0
  obtain ⟨kd, hs, hb, h⟩ := h
  refine LCalls.enter (fn := Try.f77) (by rw [hP]; exact Try.func77) rfl rfl ?_
  repeat (first | refine LOps.valH (r := .one (iv 0)) (LVal.to (LVal.move (.inr rfl)) rfl) ?_ | refine LOps.nil ?_ | refine andThen_normal ?_ | refine andThen_exit ?_ | refine andThen_ret ?_ | refine inBlock_normal ?_ | refine inBlock_ret ?_ | refine inBlock_here ?_ | refine inBlock_out rfl ?_ | refine LWp.seq ?_ | refine LWp.region ?_ | refine LWp.block ?_ | refine LWp.exit ?_ | refine LWp.ret ?_ | refine LWp.skip ?_ | refine LOps.valA ?_ | refine LOps.outA ?_ | refine LOps.whenA ?_ | refine LOps.pickA ?_ | refine LOps.storeA ?_)
  refine LWp.drawF (fun _ _ => True) [0, 1, 2, 3, 4, 5, 6, 9, 10, 7, 8, 11, 12] (by rw [hP]; rfl) rfl ?_
  repeat (first | refine LRl.val (r := .one (.v (.pointer (some ⟨bs, b, none⟩)))) (fun _ _ => LVal.to (LVal.indexP (m := b) hD rfl rfl rfl rfl rfl rfl (by omega)) (by show TV.one (.v (.pointer (some ⟨bs, 0 + b * 1, none⟩))) = _; rw [Nat.mul_one, Nat.zero_add])) rfl rfl rfl ?_ | refine LRl.nil ?_ | refine LRl.valA ?_ | refine LRl.outA ?_ | refine LRl.whenA ?_ | refine LRl.pickA ?_)
  refine LRl.actA0 (LDo.store hD rfl rfl hb rfl rfl rfl (by rw [Nat.ble_eq]; show b + 1 ≤ _; rw [drI_len h]; omega)).toAct rfl rfl rfl (by rintro _ _ ⟨rfl, rfl⟩ q _; exact .inl ⟨fun b cs _ hn => absurd trivial hn, fun _ _ h => h⟩) ?_
  rintro _ S9 ⟨rfl, hS9⟩
  replace hS9 := hS9.trans (congrArg (LS.setBox _ bs) (drI_skd h hb256 _))
  subst hS9
  have hb2 := box_set S bs (drLI (kd.set b 0) hs)
  have l2 : (drLI (kd.set b 0) hs).length = 512 := by simp [drLI, h.hk, h.hh]
  repeat (first | refine LRl.val (r := .one (.v (.pointer (some ⟨bs, 256 + b, none⟩)))) (fun _ _ => LVal.to (LVal.indexP (m := b) hD rfl rfl rfl rfl rfl rfl (by omega)) (by show TV.one (.v (.pointer (some ⟨bs, 256 + b * 1, none⟩))) = _; rw [Nat.mul_one])) rfl rfl rfl ?_ | refine LRl.nil ?_ | refine LRl.valA ?_ | refine LRl.outA ?_ | refine LRl.whenA ?_ | refine LRl.pickA ?_)
  refine LRl.actA0 (LDo.store hD rfl rfl hb2 rfl rfl rfl (by rw [Nat.ble_eq]; show 256 + b + 1 ≤ _; rw [l2]; omega)).toAct rfl rfl rfl (by rintro _ _ ⟨rfl, rfl⟩ q _; exact .inl ⟨fun b cs _ hn => absurd trivial hn, fun _ _ h => h⟩) ?_
  rintro _ S9 ⟨rfl, hS9⟩
  replace hS9 := hS9.trans (congrArg (LS.setBox _ bs) (show splice (drLI (kd.set b 0) hs) (256 + b) [bv false] = drLI (kd.set b 0) (hs.set b false) from drI_shs (by rw [List.length_set]; exact h.hk) h.hh hb256 false))
  subst hS9
  repeat (first | refine LRl.nil ?_ | refine LRl.valA ?_ | refine LRl.outA ?_ | refine LRl.whenA ?_ | refine LRl.pickA ?_)
  repeat (first | refine LOps.nil ?_ | refine andThen_normal ?_ | refine andThen_exit ?_ | refine andThen_ret ?_ | refine inBlock_normal ?_ | refine inBlock_ret ?_ | refine inBlock_here ?_ | refine inBlock_out rfl ?_ | refine LWp.seq ?_ | refine LWp.region ?_ | refine LWp.block ?_ | refine LWp.exit ?_ | refine LWp.ret ?_ | refine LWp.skip ?_ | refine LOps.valA ?_ | refine LOps.outA ?_ | refine LOps.whenA ?_ | refine LOps.pickA ?_ | refine LOps.storeA ?_)
  exact ⟨_, LRes.none rfl, ⟨_, _, box_set _ _ _, h.drop hb256⟩, (MvF.own _ _ _).trans (.own _ _ _)⟩

end Go.Proofs.Ytinbibeapooghaa.LF
