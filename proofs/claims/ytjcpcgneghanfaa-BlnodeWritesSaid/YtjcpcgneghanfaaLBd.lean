/- The B-link node: the walk of Put. -/
import Derived.Test.YtjcpcgneghanfaaLBc
set_option linter.unusedVariables false
set_option linter.unusedSimpArgs false
namespace Go.Proofs.Ytjcpcgneghanfaa.LF
open Go.RowKit
set_option linter.unusedVariables false

def NdV.ins (n : NdV) (i : Nat) (k v : ByteArray) : NdV := { n with keys := insL n.keys i k, vals := insL n.vals i v }
def putN (n : NdV) (k v : ByteArray) : NdV × ByteArray × Bool :=
  if takesN n k then
    if hasK n.keys k then ({ n with vals := n.vals.set (cntK n.keys k) v }, n.vals.getD (cntK n.keys k) noBytes, true)
    else (n.ins (cntK n.keys k) k v, noBytes, false)
  else (n, noBytes, false)
theorem hasK_lt {l : List ByteArray} {k : ByteArray} (h : hasK l k = true) : ∃ hl : cntK l k < l.length, l[cntK l k] = k := by
  unfold hasK at h
  exact List.getElem?_eq_some_iff.1 (of_decide_eq_true h)
theorem rightN_leaf {n : NdV} (h : rightN n = true) (hl : n.leaf = true) : n.vals.length = n.keys.length ∧ n.kids.length = 0 := by
  unfold rightN at h
  rw [if_pos hl] at h
  simp only [Bool.and_eq_true, decide_eq_true_eq] at h
  exact h.2.2
theorem rightN_inner {n : NdV} (h : rightN n = true) (hl : n.leaf = false) : n.vals.length = 0 ∧ n.kids.length = n.keys.length + 1 := by
  unfold rightN at h
  rw [if_neg (by rw [hl]; decide)] at h
  simp only [Bool.and_eq_true, decide_eq_true_eq] at h
  exact h.2.2
theorem takesN_is {n : NdV} {k : ByteArray} (h : takesN n k = true) : n.leaf = true ∧ rightN n = true ∧ coversN n k = true := by
  unfold takesN at h
  simp only [Bool.and_eq_true] at h
  exact ⟨h.1.1, h.1.2, h.2⟩
theorem rdS {l : List ByteArray} {rest : List LV} {i : Nat} (hi : i < l.length) : readT ti9 ((cellsR sL l ++ rest).drop (i * 1)) = some (.one (sv l[i])) := by
  rw [cellsR_at sL_len l rest hi]; rfl
theorem rdH {l : List HdV} {rest : List LV} {i : Nat} (hi : i < l.length) : readT ti26 ((cellsR hdL l ++ rest).drop (i * 2)) = some (.agg (hdL l[i])) := by
  rw [cellsR_at hdL_len l rest hi]; rfl
theorem SlAt.row_of {α : Type} {f : α → List LV} {z : Nat} {S : LS} {X : LV} {l : List α} (h : SlAt f z S X l) (hl : 0 < l.length) : ∃ r c rest, X = rsl r 0 l.length c ∧ RowIn f z S r l c rest := by
  cases h with
  | nil => simp at hl
  | row r c _ rest h => exact ⟨r, c, rest, rfl, h⟩

set_option maxHeartbeats 8000000 in
set_option maxRecDepth 10000 in
theorem put_L {G : Ctx} (hP : G.P = Try.prog) (n : NdV) (hn : n.ok) (k v : ByteArray) (S : LS) : LCalls G 26 [.agg (ndL n), .one (sv k), .one (sv v)] (fun r S' => ∃ X Y Z, r = .tup [.agg (ndX (putN n k v).1 X Y Z), .one (sv (putN n k v).2.1), .one (bv (putN n k v).2.2)] ∧ S.le S' ∧ Raw S S' (putN n k v).1 X Y Z) S := by
  have hD : TabOK G.P D := by rw [hP]; exact hD0
  have hnk := hn.keys
  have hnv := hn.vals
  have hnh := hn.kids
  have c1 := takes_F hP n hn k
  have c2 := find_F hP n hn k
  refine LCalls.enter (fn := Try.f26) (by rw [hP]; exact Try.func26) rfl rfl ?_
  repeat (first | refine LOps.nil ?_ | refine andThen_normal ?_ | refine andThen_exit ?_ | refine andThen_ret ?_ | refine inBlock_normal ?_ | refine inBlock_ret ?_ | refine inBlock_here ?_ | refine inBlock_out rfl ?_ | refine LWp.seq ?_ | refine LWp.region ?_ | refine LWp.block ?_ | refine LWp.exit ?_ | refine LWp.ret ?_ | refine LWp.skip ?_ | refine LOps.valA ?_ | refine LOps.outA ?_ | refine LOps.whenA ?_ | refine LOps.pickA ?_ | refine LOps.storeA ?_)
  have hle := LS.le.refl S
  refine LOps.do (LDo.box rfl rfl) rfl rfl rfl ?_
  rintro _ _ ⟨b3, hb3, rfl, rfl⟩
  have s3 := hle.none hb3
  refine LOps.gen (fun S' => S.le S' ∧ S'.box b3 = some (ndL n)) ⟨hle.newBox hb3 _, box_new _ _ _⟩ ?_
  clear hle hb3 
  rintro S3 ⟨hle, k3⟩
  skip
  refine LOps.do (LDo.alloc hD rfl rfl rfl) rfl rfl rfl ?_
  rintro _ _ ⟨b6, hb6, rfl, rfl⟩
  have n3_6 := fresh_ne hb6 k3
  have m6_3 := n3_6.symm
  have s6 := hle.none hb6
  refine LOps.gen (fun S' => S.le S' ∧ S'.box b3 = some (ndL n) ∧ S'.box b6 = some (ndX noNd (.sl .nil []) (.sl .nil []) (.sl .nil []))) ⟨hle.newBox hb6 _, (box_new_ne _ _ n3_6).trans k3, box_new _ _ _⟩ ?_
  clear hle hb6 k3
  rintro S6 ⟨hle, k3, k6⟩
  repeat (first | refine LOps.valH (LVal.load hD rfl rfl k3 rfl rfl) ?_ | refine LOps.nil ?_ | refine andThen_normal ?_ | refine andThen_exit ?_ | refine andThen_ret ?_ | refine inBlock_normal ?_ | refine inBlock_ret ?_ | refine inBlock_here ?_ | refine inBlock_out rfl ?_ | refine LWp.seq ?_ | refine LWp.region ?_ | refine LWp.block ?_ | refine LWp.exit ?_ | refine LWp.ret ?_ | refine LWp.skip ?_ | refine LOps.valA ?_ | refine LOps.outA ?_ | refine LOps.whenA ?_ | refine LOps.pickA ?_ | refine LOps.storeA ?_)
  refine LOps.do (LDo.callF (clone_L hP n hn _) (by rw [hP]; exact Try.func39)) rfl rfl rfl ?_
  rintro _ S7 ⟨X, Y, Z, rfl, le7, R⟩
  have k37 := le7.box _ _ k3
  have k67 := le7.box _ _ k6
  repeat (first | refine LOps.nil ?_ | refine andThen_normal ?_ | refine andThen_exit ?_ | refine andThen_ret ?_ | refine inBlock_normal ?_ | refine inBlock_ret ?_ | refine inBlock_here ?_ | refine inBlock_out rfl ?_ | refine LWp.seq ?_ | refine LWp.region ?_ | refine LWp.block ?_ | refine LWp.exit ?_ | refine LWp.ret ?_ | refine LWp.skip ?_ | refine LOps.valA ?_ | refine LOps.outA ?_ | refine LOps.whenA ?_ | refine LOps.pickA ?_)
  refine LOps.storeA (b := b6) (off := 0) (cs := ndX noNd (.sl .nil []) (.sl .nil []) (.sl .nil [])) (l := ndX n X Y Z) ?_
  have hno : ∀ c, (S6.box c = none) → S.box c = none := fun c hc => by
    cases hq : S.box c with
    | none => rfl
    | some cs => rw [hle.box c cs hq] at hc; cases hc
  have x3 : ∀ c, blockOf X = some c ∨ blockOf Y = some c ∨ blockOf Z = some c → c ≠ b3 ∧ c ≠ b6 := fun c hc => by
    have h0 : S6.box c = none := by
      rcases hc with h | h | h
      · exact R.nx c h
      · exact R.ny c h
      · exact R.nz c h
    refine ⟨fun e => ?_, fun e => ?_⟩
    · rw [e, k3] at h0; cases h0
    · rw [e, k6] at h0; cases h0
  have R0 : Raw S S7 n X Y Z := ⟨R.x, R.y, R.z, fun c h => hno c (R.nx c h), fun c h => hno c (R.ny c h), fun c h => hno c (R.nz c h), R.xy, R.xz, R.yz⟩
  refine LOps.gen (fun S' => S.le S' ∧ S'.box b3 = some (ndL n) ∧ S'.box b6 = some (ndX n X Y Z) ∧ Raw S S' n X Y Z) ⟨(hle.trans le7).setBox s6 _, (box_set_ne _ _ n3_6).trans k37, box_set _ _ _, R0.keep fun c cs hc h => (box_set_ne _ _ (x3 c h).2).trans hc⟩ ?_
  clear hno hle k3 k6 k37 k67 R R0 le7
  rintro S8 ⟨hle, k3, k6, R⟩
  repeat (first | refine LOps.valH (LVal.load hD rfl rfl k3 rfl rfl) ?_ | refine LOps.nil ?_ | refine andThen_normal ?_ | refine andThen_exit ?_ | refine andThen_ret ?_ | refine inBlock_normal ?_ | refine inBlock_ret ?_ | refine inBlock_here ?_ | refine inBlock_out rfl ?_ | refine LWp.seq ?_ | refine LWp.region ?_ | refine LWp.block ?_ | refine LWp.exit ?_ | refine LWp.ret ?_ | refine LWp.skip ?_ | refine LOps.val (LVal.call rfl rfl (by rw [hP]; exact Try.func42) rfl (by decide) (c1)) rfl rfl rfl ?_ | refine LOps.whenC (LVal.call rfl rfl (by rw [hP]; exact Try.func42) rfl (by decide) (c1)) ?_ | refine LOps.valA ?_ | refine LOps.outA ?_ | refine LOps.whenA ?_ | refine LOps.pickA ?_ | refine LOps.storeA ?_)
  refine LWp.cond rfl (fun h => ?_) (fun h => ?_)
  · have h : (!takesN n k) = true := h
    rw [Bool.not_eq_true'] at h
    have e : putN n k v = (n, noBytes, false) := by rw [putN, if_neg (by rw [h]; decide)]
    repeat (first | refine LOps.valH (LVal.load hD rfl rfl k6 rfl rfl) ?_ | refine LOps.nil ?_ | refine andThen_normal ?_ | refine andThen_exit ?_ | refine andThen_ret ?_ | refine inBlock_normal ?_ | refine inBlock_ret ?_ | refine inBlock_here ?_ | refine inBlock_out rfl ?_ | refine LWp.seq ?_ | refine LWp.region ?_ | refine LWp.block ?_ | refine LWp.exit ?_ | refine LWp.ret ?_ | refine LWp.skip ?_ | refine LOps.valA ?_ | refine LOps.outA ?_ | refine LOps.whenA ?_ | refine LOps.pickA ?_)
    refine LOps.storeA (b := b6) (off := 0) (cs := ndX n X Y Z) (l := ndX n X Y Z) ?_
    repeat (first | refine LOps.nil ?_ | refine andThen_normal ?_ | refine andThen_exit ?_ | refine andThen_ret ?_ | refine inBlock_normal ?_ | refine inBlock_ret ?_ | refine inBlock_here ?_ | refine inBlock_out rfl ?_ | refine LWp.seq ?_ | refine LWp.region ?_ | refine LWp.block ?_ | refine LWp.exit ?_ | refine LWp.ret ?_ | refine LWp.skip ?_ | refine LOps.valA ?_ | refine LOps.outA ?_ | refine LOps.whenA ?_ | refine LOps.pickA ?_ | refine LOps.storeA ?_)
    rw [e]
    exact ⟨_, ndRes3 hP rfl rfl (box_set _ _ _) rfl rfl, X, Y, Z, rfl, hle.setBox s6 _, R.keep fun c cs hc h => (box_set_ne _ _ (x3 c h).2).trans hc⟩
  have h : (!takesN n k) = false := h
  rw [Bool.not_eq_false'] at h
  obtain ⟨hl, hr, hc⟩ := takesN_is h
  obtain ⟨hvl, hkd⟩ := rightN_leaf hr hl
  repeat (first | refine LOps.valH (LVal.load hD rfl rfl k3 rfl rfl) ?_ | refine LOps.nil ?_ | refine andThen_normal ?_ | refine andThen_exit ?_ | refine andThen_ret ?_ | refine inBlock_normal ?_ | refine inBlock_ret ?_ | refine inBlock_here ?_ | refine inBlock_out rfl ?_ | refine LWp.seq ?_ | refine LWp.region ?_ | refine LWp.block ?_ | refine LWp.exit ?_ | refine LWp.ret ?_ | refine LWp.skip ?_ | refine LOps.val (LVal.call rfl rfl (by rw [hP]; exact Try.func14) rfl (by decide) (c2)) rfl rfl rfl ?_ | refine LOps.whenC (LVal.call rfl rfl (by rw [hP]; exact Try.func14) rfl (by decide) (c2)) ?_ | refine LOps.valA ?_ | refine LOps.outA ?_ | refine LOps.whenA ?_ | refine LOps.pickA ?_ | refine LOps.storeA ?_)
  have hle2 := cntK_le n.keys k
  refine LWp.cond rfl (fun hh => ?_) (fun hh => ?_)
  · have hh : hasK n.keys k = true := hh
    obtain ⟨hlt, hkk⟩ := hasK_lt hh
    have hltv : cntK n.keys k < n.vals.length := by omega
    have e : putN n k v = ({ n with vals := n.vals.set (cntK n.keys k) v }, n.vals.getD (cntK n.keys k) noBytes, true) := by rw [putN, if_pos h, if_pos hh]
    rw [e]
    obtain ⟨r, c, rest, rfl, hrow⟩ := R.y.row_of (by omega)
    have hbr := hrow.box
    have hlen := hrow.len sL_len
    have hcap := hrow.cap
    have r6 := (x3 r (.inr (.inl rfl))).2
    repeat (first | refine LOps.valH (LVal.indexR hD rfl rfl rfl rfl rfl rfl (by omega) (by omega)) ?_ | refine LOps.valH (LVal.load hD rfl rfl hbr rfl (by rw [Nat.zero_add]; exact rdS hltv)) ?_ | refine LOps.nil ?_ | refine andThen_normal ?_ | refine andThen_exit ?_ | refine andThen_ret ?_ | refine inBlock_normal ?_ | refine inBlock_ret ?_ | refine inBlock_here ?_ | refine inBlock_out rfl ?_ | refine LWp.seq ?_ | refine LWp.region ?_ | refine LWp.block ?_ | refine LWp.exit ?_ | refine LWp.ret ?_ | refine LWp.skip ?_ | refine LOps.valA ?_ | refine LOps.outA ?_ | refine LOps.whenA ?_ | refine LOps.pickA ?_ | refine LOps.storeA ?_)
    have hoff : (0 + ((cntK n.keys k : Nat) : Int).toNat * ti9.size) = cntK n.keys k * 1 := by rw [Nat.zero_add, Int.toNat_natCast]; rfl
    have hr0 : S.box r = none := R.ny r rfl
    refine LOps.do0 (LDo.store hD rfl rfl hbr rfl rfl rfl (by
      rw [Nat.ble_eq]
      show (0 + ((cntK n.keys k : Nat) : Int).toNat * ti9.size) + 1 ≤ _
      rw [hoff, hlen]; omega)) rfl rfl ?_
    rintro _ _ ⟨rfl, rfl⟩
    rw [show (splice (cellsR sL n.vals ++ rest) (0 + ((cntK n.keys k : Nat) : Int).toNat * ti9.size) [sv v]) = cellsR sL (n.vals.set (cntK n.keys k) v) ++ rest by
      rw [hoff]
      exact set_cells (x := v) (A := []) (y := [sv n.vals[cntK n.keys k]]) (y' := [sv v]) (B := []) sL_len hltv rfl rfl rfl rfl]
    have hset := box_set S8 r (cellsR sL (n.vals.set (cntK n.keys k) v) ++ rest)
    have R2 : Raw S (S8.setBox r (cellsR sL (n.vals.set (cntK n.keys k) v) ++ rest)) { n with vals := n.vals.set (cntK n.keys k) v } X (rsl r 0 n.vals.length c) Z := by
      refine ⟨R.x.other (fun e => R.xy r e rfl) _, ?_, R.z.other (R.yz r rfl) _, R.nx, R.ny, R.nz, R.xy, R.xz, R.yz⟩
      have hfin := SlAt.row (f := sL) (z := 1) (S := S8.setBox r (cellsR sL (n.vals.set (cntK n.keys k) v) ++ rest)) r c (n.vals.set (cntK n.keys k) v) rest ⟨hset, by rw [List.length_set]; exact hrow.room, by rw [List.length_set]; exact hrow.cap⟩
      rw [List.length_set] at hfin
      exact hfin
    refine LOps.gen (fun S' => S.le S' ∧ S'.box b6 = some (ndX n X (rsl r 0 n.vals.length c) Z) ∧ Raw S S' { n with vals := n.vals.set (cntK n.keys k) v } X (rsl r 0 n.vals.length c) Z) ⟨hle.setBox hr0 _, (box_set_ne _ _ r6.symm).trans k6, R2⟩ ?_
    clear hle k3 k6 R R2 hset hbr hrow
    rintro S9 ⟨hle, k6, R⟩
    repeat (first | refine LOps.valH (LVal.load hD rfl rfl k6 rfl rfl) ?_ | refine LOps.nil ?_ | refine andThen_normal ?_ | refine andThen_exit ?_ | refine andThen_ret ?_ | refine inBlock_normal ?_ | refine inBlock_ret ?_ | refine inBlock_here ?_ | refine inBlock_out rfl ?_ | refine LWp.seq ?_ | refine LWp.region ?_ | refine LWp.block ?_ | refine LWp.exit ?_ | refine LWp.ret ?_ | refine LWp.skip ?_ | refine LOps.valA ?_ | refine LOps.outA ?_ | refine LOps.whenA ?_ | refine LOps.pickA ?_)
    refine LOps.storeA (b := b6) (off := 0) (cs := ndX n X (rsl r 0 n.vals.length c) Z) (l := ndX n X (rsl r 0 n.vals.length c) Z) ?_
    repeat (first | refine LOps.nil ?_ | refine andThen_normal ?_ | refine andThen_exit ?_ | refine andThen_ret ?_ | refine inBlock_normal ?_ | refine inBlock_ret ?_ | refine inBlock_here ?_ | refine inBlock_out rfl ?_ | refine LWp.seq ?_ | refine LWp.region ?_ | refine LWp.block ?_ | refine LWp.exit ?_ | refine LWp.ret ?_ | refine LWp.skip ?_ | refine LOps.valA ?_ | refine LOps.outA ?_ | refine LOps.whenA ?_ | refine LOps.pickA ?_ | refine LOps.storeA ?_)
    refine ⟨_, ndRes3 (x := { n with vals := n.vals.set (cntK n.keys k) v }) hP rfl rfl (box_set _ _ _) rfl rfl, X, _, Z, ?_, hle.setBox s6 _, R.keep fun c cs hc h => (box_set_ne _ _ (x3 c h).2).trans hc⟩
    rw [getD_key hltv]; rfl
  have hh : hasK n.keys k = false := hh
  have e : putN n k v = (n.ins (cntK n.keys k) k v, noBytes, false) := by rw [putN, if_pos h, if_neg (by rw [hh]; decide)]
  rw [e]
  have off6 : Off X Y Z b6 := ⟨fun h => (x3 b6 (.inl h)).2 rfl, fun h => (x3 b6 (.inr (.inl h))).2 rfl, fun h => (x3 b6 (.inr (.inr h))).2 rfl⟩
  repeat (first | (refine LOps.do (LDo.buildSliceR (n := 1) (ps := [(0, .tmp 40)]) (lp := [(0, [sv k])]) (l := [sv k]) hD rfl rfl rfl rfl rfl rfl rfl rfl rfl rfl rfl) rfl rfl rfl ?_; rintro _ _ ⟨b1, hb1, rfl, rfl⟩) | refine LOps.nil ?_ | refine andThen_normal ?_ | refine andThen_exit ?_ | refine andThen_ret ?_ | refine inBlock_normal ?_ | refine inBlock_ret ?_ | refine inBlock_here ?_ | refine inBlock_out rfl ?_ | refine LWp.seq ?_ | refine LWp.region ?_ | refine LWp.block ?_ | refine LWp.exit ?_ | refine LWp.ret ?_ | refine LWp.skip ?_ | refine LOps.valA ?_ | refine LOps.outA ?_ | refine LOps.whenA ?_ | refine LOps.pickA ?_ | refine LOps.storeA ?_)
  have le1 := LS.le.newBox (.refl S8) hb1 [sv k]
  refine LOps.do (LDo.callX (insS_L hP sL_len n.keys hle2 k X b1 _ (R.x.le le1) (box_new _ _ _) (fun e => by
    obtain ⟨cs, hcs⟩ := R.x.block b1 e
    rw [hb1.box] at hcs; cases hcs) (by omega)) (by rw [hP]; exact Try.func40)) rfl rfl rfl ?_
  rintro _ S9 ⟨X', rfl, hX', mv0⟩
  have mv := Mv.afterLe le1 mv0
  obtain ⟨k69, x6⟩ := mv.box b6 _ k6 off6.1
  obtain ⟨R9, le9⟩ := R.setX hle hX' mv
  have off6 : Off X' Y Z b6 := ⟨x6, off6.2⟩
  repeat (first | refine LOps.nil ?_ | refine andThen_normal ?_ | refine andThen_exit ?_ | refine andThen_ret ?_ | refine inBlock_normal ?_ | refine inBlock_ret ?_ | refine inBlock_here ?_ | refine inBlock_out rfl ?_ | refine LWp.seq ?_ | refine LWp.region ?_ | refine LWp.block ?_ | refine LWp.exit ?_ | refine LWp.ret ?_ | refine LWp.skip ?_ | refine LOps.valA ?_ | refine LOps.outA ?_ | refine LOps.whenA ?_ | refine LOps.pickA ?_)
  refine LOps.storeA (b := b6) (off := 1) (cs := ndX n X Y Z) (l := [X']) ?_
  refine LOps.gen (fun S' => S.le S' ∧ S'.box b6 = some (ndX n X' Y Z) ∧ Raw S S' { n with keys := insL n.keys (cntK n.keys k) k } X' Y Z) ⟨le9.setBox s6 _, box_set _ _ _, R9.set off6 _⟩ ?_
  clear hle k3 k6 k69 R R9 le9 mv mv0 le1 hX' hb1 x6 x3
  rintro S10 ⟨hle, k6, R⟩
  repeat (first | (refine LOps.do (LDo.buildSliceR (n := 1) (ps := [(0, .tmp 47)]) (lp := [(0, [sv v])]) (l := [sv v]) hD rfl rfl rfl rfl rfl rfl rfl rfl rfl rfl rfl) rfl rfl rfl ?_; rintro _ _ ⟨b2, hb2, rfl, rfl⟩) | refine LOps.nil ?_ | refine andThen_normal ?_ | refine andThen_exit ?_ | refine andThen_ret ?_ | refine inBlock_normal ?_ | refine inBlock_ret ?_ | refine inBlock_here ?_ | refine inBlock_out rfl ?_ | refine LWp.seq ?_ | refine LWp.region ?_ | refine LWp.block ?_ | refine LWp.exit ?_ | refine LWp.ret ?_ | refine LWp.skip ?_ | refine LOps.valA ?_ | refine LOps.outA ?_ | refine LOps.whenA ?_ | refine LOps.pickA ?_ | refine LOps.storeA ?_)
  have le1 := LS.le.newBox (.refl S10) hb2 [sv v]
  refine LOps.do (LDo.callX (insS_L hP sL_len n.vals (i := cntK n.keys k) (by omega) v Y b2 _ (R.y.le le1) (box_new _ _ _) (fun e => by
    obtain ⟨cs, hcs⟩ := R.y.block b2 e
    rw [hb2.box] at hcs; cases hcs) (by omega)) (by rw [hP]; exact Try.func40)) rfl rfl rfl ?_
  rintro _ S11 ⟨Y', rfl, hY', mv0⟩
  have mv := Mv.afterLe le1 mv0
  obtain ⟨k69, y6⟩ := mv.box b6 _ k6 off6.2.1
  obtain ⟨R9, le9⟩ := R.setY hle hY' mv
  have off6 : Off X' Y' Z b6 := ⟨off6.1, y6, off6.2.2⟩
  repeat (first | refine LOps.nil ?_ | refine andThen_normal ?_ | refine andThen_exit ?_ | refine andThen_ret ?_ | refine inBlock_normal ?_ | refine inBlock_ret ?_ | refine inBlock_here ?_ | refine inBlock_out rfl ?_ | refine LWp.seq ?_ | refine LWp.region ?_ | refine LWp.block ?_ | refine LWp.exit ?_ | refine LWp.ret ?_ | refine LWp.skip ?_ | refine LOps.valA ?_ | refine LOps.outA ?_ | refine LOps.whenA ?_ | refine LOps.pickA ?_)
  refine LOps.storeA (b := b6) (off := 2) (cs := ndX n X' Y Z) (l := [Y']) ?_
  refine LOps.gen (fun S' => S.le S' ∧ S'.box b6 = some (ndX n X' Y' Z) ∧ Raw S S' (n.ins (cntK n.keys k) k v) X' Y' Z) ⟨le9.setBox s6 _, box_set _ _ _, R9.set off6 _⟩ ?_
  clear hle k6 k69 R R9 le9 mv mv0 le1 hY' hb2 y6
  rintro S12 ⟨hle, k6, R⟩
  repeat (first | refine LOps.valH (LVal.load hD rfl rfl k6 rfl rfl) ?_ | refine LOps.nil ?_ | refine andThen_normal ?_ | refine andThen_exit ?_ | refine andThen_ret ?_ | refine inBlock_normal ?_ | refine inBlock_ret ?_ | refine inBlock_here ?_ | refine inBlock_out rfl ?_ | refine LWp.seq ?_ | refine LWp.region ?_ | refine LWp.block ?_ | refine LWp.exit ?_ | refine LWp.ret ?_ | refine LWp.skip ?_ | refine LOps.valA ?_ | refine LOps.outA ?_ | refine LOps.whenA ?_ | refine LOps.pickA ?_)
  refine LOps.storeA (b := b6) (off := 0) (cs := ndX n X' Y' Z) (l := ndX n X' Y' Z) ?_
  repeat (first | refine LOps.nil ?_ | refine andThen_normal ?_ | refine andThen_exit ?_ | refine andThen_ret ?_ | refine inBlock_normal ?_ | refine inBlock_ret ?_ | refine inBlock_here ?_ | refine inBlock_out rfl ?_ | refine LWp.seq ?_ | refine LWp.region ?_ | refine LWp.block ?_ | refine LWp.exit ?_ | refine LWp.ret ?_ | refine LWp.skip ?_ | refine LOps.valA ?_ | refine LOps.outA ?_ | refine LOps.whenA ?_ | refine LOps.pickA ?_ | refine LOps.storeA ?_)
  exact ⟨_, ndRes3 (x := n.ins (cntK n.keys k) k v) hP rfl rfl (box_set _ _ _) rfl rfl, X', Y', Z, rfl, hle.setBox s6 _, R.set off6 _⟩

/-- Put, as a value. -/
theorem put_F {G : Ctx} (hP : G.P = Try.prog) (n : NdV) (hn : n.ok) (k v : ByteArray) : LFun G 26 [.agg (ndL n), .one (sv k), .one (sv v)] (.tup [.agg (ndL (putN n k v).1), .one (sv (putN n k v).2.1), .one (bv (putN n k v).2.2)]) := LFun.of fun S =>
  (put_L hP n hn k v S).frz fun r S' ⟨X, Y, Z, e, hle, R⟩ => by
    obtain ⟨S2, f1, _, l2⟩ := R.frz hle [.one (sv (putN n k v).2.1), .one (bv (putN n k v).2.2)]
    exact ⟨_, S2, e ▸ f1, rfl, l2⟩
end Go.Proofs.Ytjcpcgneghanfaa.LF
