/- The B-link node: the walk of Split: its halves' slices as they are. (Printed by gen_split.py.) -/
import Derived.Test.YtjcpcgneghanfaaLCb
set_option linter.unusedVariables false
set_option linter.unusedSimpArgs false
namespace Go.Proofs.Ytjcpcgneghanfaa.LF
open Go.RowKit
set_option linter.unusedVariables false

section
variable {α : Type} {f : α → List LV} {z : Nat} {S : LS} {r c : Nat} {l : List α} {rest : List LV}
theorem PtAt.lo (hz : ∀ x, (f x).length = z) (h : RowIn f z S r l c rest) {m : Nat} (hm : m ≤ l.length) : PtAt f z S (rsl r 0 m m) (l.take m) := by
  have hl : (l.take m).length = m := by rw [List.length_take]; omega
  have hp := PtAt.row (f := f) (z := z) (S := S) r 0 m (l.take m) [] (cellsR f (l.drop m) ++ rest) (by rw [h.box, cellsR_split l m, List.append_assoc]; rfl) rfl (by omega) (by rw [List.length_append, cellsR_length hz, hl]; omega)
  rwa [hl] at hp
theorem PtAt.hi (hz : ∀ x, (f x).length = z) (h : RowIn f z S r l c rest) {m : Nat} (hm : m ≤ l.length) : PtAt f z S (rsl r (m * z) (l.length - m) (c - m)) (l.drop m) := by
  have hl : (l.drop m).length = l.length - m := List.length_drop
  have hc := h.cap
  have hlen := h.len hz
  have hp := PtAt.row (f := f) (z := z) (S := S) r (m * z) (c - m) (l.drop m) (cellsR f (l.take m)) rest (by rw [h.box, cellsR_split l m, List.append_assoc]) (by rw [cellsR_length hz, List.length_take, Nat.min_eq_left hm]) (by omega) (by
    rw [List.length_append, cellsR_length hz] at hlen ⊢
    rw [hl, Nat.sub_mul, Nat.sub_mul]
    have : l.length * z ≤ c * z := Nat.mul_le_mul_right _ hc
    omega)
  rwa [hl] at hp
end
theorem splitRes2 {G : Ctx} (hP : G.P = Try.prog) {n : Nat} {fn : Func} {T : Nat → TV} {S : LS} {a c t : Tmp} {b d : Nat} {x y : NdV} {X Y Z X' Y' Z' : LV} {p : TV} (hf : fn.results = #[.cell a 28, .cell c 28, .tmp t]) (ha : T a = ptr b) (hb : S.box b = some (ndX x X Y Z)) (hc : T c = ptr d) (hd : S.box d = some (ndX y X' Y' Z')) (hp : T t = p) : LRes G n fn T S (.tup [.agg (ndX x X Y Z), .agg (ndX y X' Y' Z'), p]) := by
  subst hp
  exact LRes.many (vs := [.cell a 28, .cell c 28, .tmp t]) hf rfl (.cons (.cell ha hb (hP ▸ tok28) rfl) (.cons (.cell hc hd (hP ▸ tok28) rfl) (.cons (.tmp _) .nil)))
theorem noNd_rwp (S0 S : LS) : Rwp S0 S noNd (.sl .nil []) (.sl .nil []) (.sl .nil []) := ⟨.nil, .nil, .nil, (fun c h => by cases h), (fun c h => by cases h), (fun c h => by cases h), (fun c h => by cases h), (fun c h => by cases h), (fun c h => by cases h)⟩
theorem apt_nil (X Y Z : LV) : Apt X Y Z (.sl .nil []) (.sl .nil []) (.sl .nil []) := fun c _ => ⟨(fun h => by cases h), (fun h => by cases h), (fun h => by cases h)⟩

/-- What Split tells. -/
structure Spl (S S' : LS) (x y : NdV) (X Y Z X' Y' Z' : LV) : Prop where
  le : S.le S'
  a : Rwp S S' x X Y Z
  b : Rwp S S' y X' Y' Z'
  ap : Apt X Y Z X' Y' Z'

set_option maxHeartbeats 32000000 in
set_option maxRecDepth 10000 in
theorem split_L {G : Ctx} (hP : G.P = Try.prog) (n : NdV) (hn : n.ok) (h : HdV) (S : LS) : LCalls G 24 [.agg (ndL n), .agg (hdL h)] (fun r S' => ∃ X Y Z X' Y' Z', r = .tup [.agg (ndX (splitN n h).1 X Y Z), .agg (ndX (splitN n h).2.1 X' Y' Z'), .one (sv (splitN n h).2.2)] ∧ Spl S S' (splitN n h).1 (splitN n h).2.1 X Y Z X' Y' Z') S := by
  have hD : TabOK G.P D := by rw [hP]; exact hD0
  have hml : (n.keys.map sL).length = n.keys.length := List.length_map ..
  have hnk := hn.keys
  have c2 := right_F hP n hn
  refine LCalls.enter (fn := Try.f24) (by rw [hP]; exact Try.func24) rfl rfl ?_
  repeat (first | refine LOps.nil ?_ | refine andThen_normal ?_ | refine andThen_exit ?_ | refine andThen_ret ?_ | refine inBlock_normal ?_ | refine inBlock_ret ?_ | refine inBlock_here ?_ | refine inBlock_out rfl ?_ | refine LWp.seq ?_ | refine LWp.region ?_ | refine LWp.block ?_ | refine LWp.exit ?_ | refine LWp.ret ?_ | refine LWp.skip ?_ | refine LOps.valA ?_ | refine LOps.outA ?_ | refine LOps.whenA ?_ | refine LOps.pickA ?_ | refine LOps.storeA ?_)
  have hle := LS.le.refl S
  refine LOps.do (LDo.box rfl rfl) rfl rfl rfl ?_
  rintro _ _ ⟨b2, hb2, rfl, rfl⟩
  have s2 := hle.none hb2
  refine LOps.gen (fun S' => S.le S' ∧ S'.box b2 = some (ndL n)) ⟨hle.newBox hb2 _, box_new _ _ _⟩ ?_
  clear hle hb2 
  rintro S2 ⟨hle, k2⟩
  skip
  refine LOps.do (LDo.box rfl rfl) rfl rfl rfl ?_
  rintro _ _ ⟨b3, hb3, rfl, rfl⟩
  have n2_3 := fresh_ne hb3 k2
  have m3_2 := n2_3.symm
  have s3 := hle.none hb3
  refine LOps.gen (fun S' => S.le S' ∧ S'.box b2 = some (ndL n) ∧ S'.box b3 = some (hdL h)) ⟨hle.newBox hb3 _, (box_new_ne _ _ n2_3).trans k2, box_new _ _ _⟩ ?_
  clear hle hb3 k2
  rintro S3 ⟨hle, k2, k3⟩
  skip
  refine LOps.do (LDo.alloc hD rfl rfl rfl) rfl rfl rfl ?_
  rintro _ _ ⟨b4, hb4, rfl, rfl⟩
  have n2_4 := fresh_ne hb4 k2
  have m4_2 := n2_4.symm
  have n3_4 := fresh_ne hb4 k3
  have m4_3 := n3_4.symm
  have s4 := hle.none hb4
  refine LOps.gen (fun S' => S.le S' ∧ S'.box b2 = some (ndL n) ∧ S'.box b3 = some (hdL h) ∧ S'.box b4 = some (ndX noNd (.sl .nil []) (.sl .nil []) (.sl .nil []))) ⟨hle.newBox hb4 _, (box_new_ne _ _ n2_4).trans k2, (box_new_ne _ _ n3_4).trans k3, box_new _ _ _⟩ ?_
  clear hle hb4 k2 k3
  rintro S4 ⟨hle, k2, k3, k4⟩
  skip
  refine LOps.do (LDo.alloc hD rfl rfl rfl) rfl rfl rfl ?_
  rintro _ _ ⟨b5, hb5, rfl, rfl⟩
  have n2_5 := fresh_ne hb5 k2
  have m5_2 := n2_5.symm
  have n3_5 := fresh_ne hb5 k3
  have m5_3 := n3_5.symm
  have n4_5 := fresh_ne hb5 k4
  have m5_4 := n4_5.symm
  have s5 := hle.none hb5
  refine LOps.gen (fun S' => S.le S' ∧ S'.box b2 = some (ndL n) ∧ S'.box b3 = some (hdL h) ∧ S'.box b4 = some (ndX noNd (.sl .nil []) (.sl .nil []) (.sl .nil [])) ∧ S'.box b5 = some (ndX noNd (.sl .nil []) (.sl .nil []) (.sl .nil []))) ⟨hle.newBox hb5 _, (box_new_ne _ _ n2_5).trans k2, (box_new_ne _ _ n3_5).trans k3, (box_new_ne _ _ n4_5).trans k4, box_new _ _ _⟩ ?_
  clear hle hb5 k2 k3 k4
  rintro S5 ⟨hle, k2, k3, k4, k5⟩
  repeat (first | (refine LWp.seq (LWp.cut 2 (fun T' S' => S' = S5 ∧ ∃ (T'' : Nat → TV), T' = over T'' [(2, ptr b2), (3, ptr b3), (4, ptr b4), (5, ptr b5), (6, .one (sv noBytes)), (7, .one (iv (if n.leaf then 2 else 3 : Nat)))]) rfl ?_ ?_); rotate_left) | refine LOps.nil ?_ | refine andThen_normal ?_ | refine andThen_exit ?_ | refine andThen_ret ?_ | refine inBlock_normal ?_ | refine inBlock_ret ?_ | refine inBlock_here ?_ | refine inBlock_out rfl ?_ | refine LWp.seq ?_ | refine LWp.region ?_ | refine LWp.block ?_ | refine LWp.exit ?_ | refine LWp.ret ?_ | refine LWp.skip ?_ | refine LOps.valA ?_ | refine LOps.outA ?_ | refine LOps.whenA ?_ | refine LOps.pickA ?_ | refine LOps.storeA ?_)
  rotate_left
  · repeat (first | refine LOps.nil ?_ | refine andThen_normal ?_ | refine andThen_exit ?_ | refine andThen_ret ?_ | refine inBlock_normal ?_ | refine inBlock_ret ?_ | refine inBlock_here ?_ | refine inBlock_out rfl ?_ | refine LWp.seq ?_ | refine LWp.region ?_ | refine LWp.block ?_ | refine LWp.exit ?_ | refine LWp.ret ?_ | refine LWp.skip ?_ | refine LOps.valA ?_ | refine LOps.outA ?_ | refine LOps.whenA ?_ | refine LOps.pickA ?_ | refine LOps.storeA ?_)
    refine LWp.cond rfl (fun hh => ?_) (fun hh => ?_)
    · have hh : (!n.leaf) = true := hh
      repeat (first | refine LOps.nil ?_ | refine andThen_normal ?_ | refine andThen_exit ?_ | refine andThen_ret ?_ | refine inBlock_normal ?_ | refine inBlock_ret ?_ | refine inBlock_here ?_ | refine inBlock_out rfl ?_ | refine LWp.seq ?_ | refine LWp.region ?_ | refine LWp.block ?_ | refine LWp.exit ?_ | refine LWp.ret ?_ | refine LWp.skip ?_ | refine LOps.valA ?_ | refine LOps.outA ?_ | refine LOps.whenA ?_ | refine LOps.pickA ?_ | refine LOps.storeA ?_)
      exact ⟨rfl, _, holds.over ⟨rfl, rfl, rfl, rfl, rfl, by rw [if_neg (by simpa using hh)]; rfl, trivial⟩⟩
    · have hh : (!n.leaf) = false := hh
      repeat (first | refine LOps.nil ?_ | refine andThen_normal ?_ | refine andThen_exit ?_ | refine andThen_ret ?_ | refine inBlock_normal ?_ | refine inBlock_ret ?_ | refine inBlock_here ?_ | refine inBlock_out rfl ?_ | refine LWp.seq ?_ | refine LWp.region ?_ | refine LWp.block ?_ | refine LWp.exit ?_ | refine LWp.ret ?_ | refine LWp.skip ?_ | refine LOps.valA ?_ | refine LOps.outA ?_ | refine LOps.whenA ?_ | refine LOps.pickA ?_ | refine LOps.storeA ?_)
      exact ⟨rfl, _, holds.over ⟨rfl, rfl, rfl, rfl, rfl, by rw [if_pos (by simpa using hh)]; rfl, trivial⟩⟩
  rintro _ S6 ⟨hS6, T6, rfl⟩
  replace hS6 := hS6.symm
  subst hS6
  repeat (first | refine LOps.valH (LVal.load hD rfl rfl k2 rfl rfl) ?_ | refine LOps.nil ?_ | refine andThen_normal ?_ | refine andThen_exit ?_ | refine andThen_ret ?_ | refine inBlock_normal ?_ | refine inBlock_ret ?_ | refine inBlock_here ?_ | refine inBlock_out rfl ?_ | refine LWp.seq ?_ | refine LWp.region ?_ | refine LWp.block ?_ | refine LWp.exit ?_ | refine LWp.ret ?_ | refine LWp.skip ?_ | refine LOps.valA ?_ | refine LOps.outA ?_ | refine LOps.whenA ?_ | refine LOps.pickA ?_)
  refine LOps.do (LDo.callF (clone_L hP n hn _) (by rw [hP]; exact Try.func39)) rfl rfl rfl ?_
  rintro _ S7 ⟨Xa, Ya, Za, rfl, le1, R0⟩
  have offa4 := R0.offOld k4
  have offa5 := R0.offOld k5
  have Ra := R0.base hle
  replace hle := hle.trans le1
  replace k2 := le1.box _ _ k2
  replace k3 := le1.box _ _ k3
  replace k4 := le1.box _ _ k4
  replace k5 := le1.box _ _ k5
  clear R0 le1
  repeat (first | refine LOps.nil ?_ | refine andThen_normal ?_ | refine andThen_exit ?_ | refine andThen_ret ?_ | refine inBlock_normal ?_ | refine inBlock_ret ?_ | refine inBlock_here ?_ | refine inBlock_out rfl ?_ | refine LWp.seq ?_ | refine LWp.region ?_ | refine LWp.block ?_ | refine LWp.exit ?_ | refine LWp.ret ?_ | refine LWp.skip ?_ | refine LOps.valA ?_ | refine LOps.outA ?_ | refine LOps.whenA ?_ | refine LOps.pickA ?_)
  refine LOps.storeA (b := b4) (off := 0) (cs := ndX noNd (.sl .nil []) (.sl .nil []) (.sl .nil [])) (l := ndX n Xa Ya Za) ?_
  refine LOps.gen (fun S' => S.le S' ∧ S'.box b2 = some (ndL n) ∧ S'.box b3 = some (hdL h) ∧ S'.box b4 = some (ndX n Xa Ya Za) ∧ S'.box b5 = some (ndX noNd (.sl .nil []) (.sl .nil []) (.sl .nil [])) ∧ Raw S S' n Xa Ya Za) ⟨hle.setBox s4 _, (box_set_ne _ _ n2_4).trans k2, (box_set_ne _ _ n3_4).trans k3, box_set _ _ _, (box_set_ne _ _ m5_4).trans k5, Ra.set offa4 _⟩ ?_
  clear hle k2 k3 k4 k5 Ra
  rintro Sb ⟨hle, k2, k3, k4, k5, Ra⟩
  repeat (first | refine LOps.valH (LVal.load hD rfl rfl k2 rfl rfl) ?_ | refine LOps.nil ?_ | refine andThen_normal ?_ | refine andThen_exit ?_ | refine andThen_ret ?_ | refine inBlock_normal ?_ | refine inBlock_ret ?_ | refine inBlock_here ?_ | refine inBlock_out rfl ?_ | refine LWp.seq ?_ | refine LWp.region ?_ | refine LWp.block ?_ | refine LWp.exit ?_ | refine LWp.ret ?_ | refine LWp.skip ?_ | refine LOps.val (LVal.call rfl rfl (by rw [hP]; exact Try.func16) rfl (by decide) (c2)) rfl rfl rfl ?_ | refine LOps.whenC (LVal.call rfl rfl (by rw [hP]; exact Try.func16) rfl (by decide) (c2)) ?_ | refine LOps.valA ?_ | refine LOps.outA ?_ | refine LOps.whenA ?_ | refine LOps.pickA ?_ | refine LOps.storeA ?_)
  refine LWp.cond rfl (fun hh => ?_) (fun hh => ?_)
  · have hh : (!rightN n || decide (((n.keys.map sL).length : Int) < ((if n.leaf then 2 else 3 : Nat) : Int))) = true := hh
    have e : splitN n h = (n, noNd, noBytes) := by
      rw [hml] at hh
      have : noSplit n = true := by
        unfold noSplit
        refine Eq.trans ?_ hh; congr 1
        rw [Bool.eq_iff_iff, decide_eq_true_iff, decide_eq_true_iff]; split <;> omega
      rw [splitN, if_pos this]
    rw [e]
    repeat (first | refine LOps.valH (LVal.load hD rfl rfl k4 rfl rfl) ?_ | refine LOps.val (LVal.build hD rfl rfl rfl rfl rfl rfl rfl) rfl rfl rfl ?_ | refine LOps.nil ?_ | refine andThen_normal ?_ | refine andThen_exit ?_ | refine andThen_ret ?_ | refine inBlock_normal ?_ | refine inBlock_ret ?_ | refine inBlock_here ?_ | refine inBlock_out rfl ?_ | refine LWp.seq ?_ | refine LWp.region ?_ | refine LWp.block ?_ | refine LWp.exit ?_ | refine LWp.ret ?_ | refine LWp.skip ?_ | refine LOps.valA ?_ | refine LOps.outA ?_ | refine LOps.whenA ?_ | refine LOps.pickA ?_)
    refine LOps.storeA (b := b4) (off := 0) (cs := ndX n Xa Ya Za) (l := ndX n Xa Ya Za) ?_
    refine LOps.gen (fun S' => S.le S' ∧ S'.box b4 = some (ndX n Xa Ya Za) ∧ S'.box b5 = some (ndX noNd (.sl .nil []) (.sl .nil []) (.sl .nil [])) ∧ Raw S S' n Xa Ya Za) ⟨hle.setBox s4 _, box_set _ _ _, (box_set_ne _ _ m5_4).trans k5, Ra.set offa4 _⟩ ?_
    clear hle k2 k3 k4 k5 Ra
    rintro Sd ⟨hle, k4, k5, Ra⟩
    repeat (first | refine LOps.nil ?_ | refine andThen_normal ?_ | refine andThen_exit ?_ | refine andThen_ret ?_ | refine inBlock_normal ?_ | refine inBlock_ret ?_ | refine inBlock_here ?_ | refine inBlock_out rfl ?_ | refine LWp.seq ?_ | refine LWp.region ?_ | refine LWp.block ?_ | refine LWp.exit ?_ | refine LWp.ret ?_ | refine LWp.skip ?_ | refine LOps.valA ?_ | refine LOps.outA ?_ | refine LOps.whenA ?_ | refine LOps.pickA ?_)
    refine LOps.storeA (b := b5) (off := 0) (cs := ndX noNd (.sl .nil []) (.sl .nil []) (.sl .nil [])) (l := ndX noNd (.sl .nil []) (.sl .nil []) (.sl .nil [])) ?_
    repeat (first | refine LOps.nil ?_ | refine andThen_normal ?_ | refine andThen_exit ?_ | refine andThen_ret ?_ | refine inBlock_normal ?_ | refine inBlock_ret ?_ | refine inBlock_here ?_ | refine inBlock_out rfl ?_ | refine LWp.seq ?_ | refine LWp.region ?_ | refine LWp.block ?_ | refine LWp.exit ?_ | refine LWp.ret ?_ | refine LWp.skip ?_ | refine LOps.valA ?_ | refine LOps.outA ?_ | refine LOps.whenA ?_ | refine LOps.pickA ?_ | refine LOps.storeA ?_)
    exact ⟨_, splitRes2 (x := n) (y := noNd) hP rfl rfl ((box_set_ne _ _ n4_5).trans k4) rfl (box_set _ _ _) rfl, Xa, Ya, Za, _, _, _, rfl, hle.setBox s5 _, (Ra.set offa5 _).pt, noNd_rwp _ _, apt_nil _ _ _⟩
  have hh : (!rightN n || decide (((n.keys.map sL).length : Int) < ((if n.leaf then 2 else 3 : Nat) : Int))) = false := hh
  have hns : noSplit n = false := by
    rw [hml] at hh
    unfold noSplit
    refine Eq.trans ?_ hh; congr 1
    rw [Bool.eq_iff_iff, decide_eq_true_iff, decide_eq_true_iff]; split <;> omega
  rw [Bool.or_eq_false_iff, decide_eq_false_iff_not, hml] at hh
  have hr : rightN n = true := by simpa using hh.1
  have hlo : 2 ≤ n.keys.length := by
    have := hh.2
    split at this <;> omega
  have hlo3 : n.leaf = false → 3 ≤ n.keys.length := fun hf => by
    have := hh.2
    rw [if_neg (by rw [hf]; decide)] at this
    omega
  clear hh
  have e : splitN n h = if n.leaf then (n.lowL (n.keys.length / 2) h, n.upL (n.keys.length / 2), n.keys.getD (n.keys.length / 2) noBytes)
    else (n.lowI (n.keys.length / 2) h, n.upI (n.keys.length / 2), n.keys.getD (n.keys.length / 2) noBytes) := by rw [splitN, if_neg (by rw [hns]; decide)]
  rw [e]
  clear e hns
  obtain ⟨m, hm⟩ : ∃ m, m = n.keys.length / 2 := ⟨_, rfl⟩
  rw [← hm]
  have hm1 : m < n.keys.length := by omega
  have hsep : n.keys.getD m noBytes = n.keys[m] := getD_key hm1
  repeat (first | refine LOps.valH (LVal.load hD rfl rfl k2 rfl rfl) ?_ | refine LOps.nil ?_ | refine andThen_normal ?_ | refine andThen_exit ?_ | refine andThen_ret ?_ | refine inBlock_normal ?_ | refine inBlock_ret ?_ | refine inBlock_here ?_ | refine inBlock_out rfl ?_ | refine LWp.seq ?_ | refine LWp.region ?_ | refine LWp.block ?_ | refine LWp.exit ?_ | refine LWp.ret ?_ | refine LWp.skip ?_ | refine LOps.valA ?_ | refine LOps.outA ?_ | refine LOps.whenA ?_ | refine LOps.pickA ?_)
  refine LOps.do (LDo.callF (clone_L hP n hn _) (by rw [hP]; exact Try.func39)) rfl rfl rfl ?_
  rintro _ S8 ⟨Xb, Yb, Zb, rfl, le1, R0⟩
  have offb4 := R0.offOld k4
  have offb5 := R0.offOld k5
  have apt := Ra.apt R0
  have Rb := R0.base hle
  replace Ra := Ra.le le1
  replace hle := hle.trans le1
  replace k2 := le1.box _ _ k2
  replace k3 := le1.box _ _ k3
  replace k4 := le1.box _ _ k4
  replace k5 := le1.box _ _ k5
  clear R0 le1
  repeat (first | refine LOps.nil ?_ | refine andThen_normal ?_ | refine andThen_exit ?_ | refine andThen_ret ?_ | refine inBlock_normal ?_ | refine inBlock_ret ?_ | refine inBlock_here ?_ | refine inBlock_out rfl ?_ | refine LWp.seq ?_ | refine LWp.region ?_ | refine LWp.block ?_ | refine LWp.exit ?_ | refine LWp.ret ?_ | refine LWp.skip ?_ | refine LOps.valA ?_ | refine LOps.outA ?_ | refine LOps.whenA ?_ | refine LOps.pickA ?_)
  refine LOps.storeA (b := b5) (off := 0) (cs := ndX noNd (.sl .nil []) (.sl .nil []) (.sl .nil [])) (l := ndX n Xb Yb Zb) ?_
  refine LOps.gen (fun S' => S.le S' ∧ S'.box b2 = some (ndL n) ∧ S'.box b3 = some (hdL h) ∧ S'.box b4 = some (ndX n Xa Ya Za) ∧ S'.box b5 = some (ndX n Xb Yb Zb) ∧ Raw S S' n Xa Ya Za ∧ Raw S S' n Xb Yb Zb) ⟨hle.setBox s5 _, (box_set_ne _ _ n2_5).trans k2, (box_set_ne _ _ n3_5).trans k3, (box_set_ne _ _ n4_5).trans k4, box_set _ _ _, Ra.set offa5 _, Rb.set offb5 _⟩ ?_
  clear hle k2 k3 k4 k5 Ra Rb
  rintro Sc ⟨hle, k2, k3, k4, k5, Ra, Rb⟩
  have hst : Sto Sc Sc b4 b5 b5 := fun d cs hd _ _ _ => hd
  obtain ⟨xa, cxa, rxa, rfl, wxa⟩ := Ra.x.row_of (by omega)
  obtain ⟨xb, cxb, rxb, rfl, wxb⟩ := Rb.x.row_of (by omega)
  have hcxb := wxb.cap
  have hcxa := wxa.cap
  repeat (first | refine LOps.valH (LVal.load hD rfl rfl k2 rfl rfl) ?_ | refine LOps.valH (LVal.load hD rfl rfl k4 rfl rfl) ?_ | refine LOps.valH (LVal.to (LVal.quo64 rfl rfl rfl (by rw [hml]; omega)) (r' := .one (iv (m : Nat))) (by refine congrArg (fun x => TV.one (iv x)) ?_; rw [hml]; omega)) ?_ | refine LOps.valH (LVal.to (LVal.slice3R (l := 0) (h := m) (m := m) hD rfl rfl rfl rfl rfl rfl rfl rfl rfl (by omega) (by omega) (by omega)) (r' := .one (rsl xa 0 (m) (m))) (by exact congrArg (fun q => TV.one (rsl xa q (m) (m))) (partOff_00 _ _))) ?_ | refine LOps.nil ?_ | refine andThen_normal ?_ | refine andThen_exit ?_ | refine andThen_ret ?_ | refine inBlock_normal ?_ | refine inBlock_ret ?_ | refine inBlock_here ?_ | refine inBlock_out rfl ?_ | refine LWp.seq ?_ | refine LWp.region ?_ | refine LWp.block ?_ | refine LWp.exit ?_ | refine LWp.ret ?_ | refine LWp.skip ?_ | refine LOps.valA ?_ | refine LOps.outA ?_ | refine LOps.whenA ?_ | refine LOps.pickA ?_)
  refine LOps.storeA (b := b4) (off := 1) (cs := ndX n (rsl xa 0 n.keys.length cxa) Ya Za) (l := [rsl xa 0 m m]) ?_
  refine LOps.gen (fun S' => S.le S' ∧ S'.box b2 = some (ndL n) ∧ S'.box b3 = some (hdL h) ∧ S'.box b4 = some (ndX n (rsl xa 0 m m) Ya Za) ∧ S'.box b5 = some (ndX n (rsl xb 0 n.keys.length cxb) Yb Zb) ∧ Sto Sc S' b4 b5 b5) ⟨hle.setBox s4 _, (box_set_ne _ _ n2_4).trans k2, (box_set_ne _ _ n3_4).trans k3, box_set _ _ _, (box_set_ne _ _ m5_4).trans k5, fun d cs hd h1 h2 h3 => (box_set_ne _ _ h1).trans (hst d cs hd h1 h2 h3)⟩ ?_
  clear hle k2 k3 k4 k5 hst
  rintro Se ⟨hle, k2, k3, k4, k5, hst⟩
  repeat (first | refine LOps.nil ?_ | refine andThen_normal ?_ | refine andThen_exit ?_ | refine andThen_ret ?_ | refine inBlock_normal ?_ | refine inBlock_ret ?_ | refine inBlock_here ?_ | refine inBlock_out rfl ?_ | refine LWp.seq ?_ | refine LWp.region ?_ | refine LWp.block ?_ | refine LWp.exit ?_ | refine LWp.ret ?_ | refine LWp.skip ?_ | refine LOps.valA ?_ | refine LOps.outA ?_ | refine LOps.whenA ?_ | refine LOps.pickA ?_ | refine LOps.storeA ?_)
  refine LWp.cond rfl (fun hl => ?_) (fun hl => ?_)
  · have hl : n.leaf = true := hl
    obtain ⟨hvl, hkd⟩ := rightN_leaf hr hl
    rw [if_pos hl]
    obtain ⟨ya, cya, rya, rfl, wya⟩ := Ra.y.row_of (by omega)
    obtain ⟨yb, cyb, ryb, rfl, wyb⟩ := Rb.y.row_of (by omega)
    have hcyb := wyb.cap
    have hcya := wya.cap
    repeat (first | refine LOps.valH (LVal.load hD rfl rfl k4 rfl rfl) ?_ | refine LOps.valH (LVal.to (LVal.slice3R (l := 0) (h := m) (m := m) hD rfl rfl rfl rfl rfl rfl rfl rfl rfl (by omega) (by omega) (by omega)) (r' := .one (rsl ya 0 (m) (m))) (by exact congrArg (fun q => TV.one (rsl ya q (m) (m))) (partOff_00 _ _))) ?_ | refine LOps.nil ?_ | refine andThen_normal ?_ | refine andThen_exit ?_ | refine andThen_ret ?_ | refine inBlock_normal ?_ | refine inBlock_ret ?_ | refine inBlock_here ?_ | refine inBlock_out rfl ?_ | refine LWp.seq ?_ | refine LWp.region ?_ | refine LWp.block ?_ | refine LWp.exit ?_ | refine LWp.ret ?_ | refine LWp.skip ?_ | refine LOps.valA ?_ | refine LOps.outA ?_ | refine LOps.whenA ?_ | refine LOps.pickA ?_)
    refine LOps.storeA (b := b4) (off := 2) (cs := ndX n (rsl xa 0 m m) (rsl ya 0 n.vals.length cya) Za) (l := [rsl ya 0 m m]) ?_
    refine LOps.gen (fun S' => S.le S' ∧ S'.box b2 = some (ndL n) ∧ S'.box b3 = some (hdL h) ∧ S'.box b4 = some (ndX n (rsl xa 0 m m) (rsl ya 0 m m) Za) ∧ S'.box b5 = some (ndX n (rsl xb 0 n.keys.length cxb) (rsl yb 0 n.vals.length cyb) Zb) ∧ Sto Sc S' b4 b5 b5) ⟨hle.setBox s4 _, (box_set_ne _ _ n2_4).trans k2, (box_set_ne _ _ n3_4).trans k3, box_set _ _ _, (box_set_ne _ _ m5_4).trans k5, fun d cs hd h1 h2 h3 => (box_set_ne _ _ h1).trans (hst d cs hd h1 h2 h3)⟩ ?_
    clear hle k2 k3 k4 k5 hst
    rintro Se ⟨hle, k2, k3, k4, k5, hst⟩
    refine LOps.nil ?_
    refine andThen_normal ?_
    refine LWp.drawF (fun q b => (q = 6 ∨ q = 7) ∧ b = b5) [0, 1, 2, 3, 4, 5, 6, 7, 8, 9, 10, 11] (by rw [hP]; rfl) rfl ?_
    repeat (first | refine LRl.valH (LVal.load hD rfl rfl k5 rfl rfl) ?_ (fun _ hS => LVal.load hD rfl rfl (hS.box _ _ k5 (by first | exact id | (intro hx; rcases hx with hx | hx <;> omega) | (intro hx; have hx2 : _ = _ := hx; omega) | (intro hx; exact absurd hx.1 (by decide)))) rfl rfl) | refine LRl.val (fun _ _ => LVal.to (LVal.sliceR (l := m) (h := n.keys.length) hD rfl rfl rfl rfl rfl rfl rfl (by omega) (by omega)) (r' := .one (rsl xb (m * 1) (n.keys.length - (m)) (cxb - (m)))) (by exact congrArg (fun q => TV.one (rsl xb q (n.keys.length - (m)) (cxb - (m)))) (partOff_0 _ _ _ (by omega)))) rfl rfl rfl ?_ | refine LRl.val (fun _ _ => LVal.to (LVal.sliceR (l := m) (h := n.vals.length) hD rfl rfl rfl rfl rfl rfl rfl (by omega) (by omega)) (r' := .one (rsl yb (m * 1) (n.vals.length - (m)) (cyb - (m)))) (by exact congrArg (fun q => TV.one (rsl yb q (n.vals.length - (m)) (cyb - (m)))) (partOff_0 _ _ _ (by omega)))) rfl rfl rfl ?_ | refine LRl.nil ?_ | refine LRl.valA ?_ | refine LRl.outA ?_ | refine LRl.whenA ?_ | refine LRl.pickA ?_)
    refine LRl.actA0 (LDo.store hD rfl rfl (k5) rfl rfl rfl rfl).toAct rfl rfl rfl (by
      rintro _ _ ⟨rfl, rfl⟩ q hq
      rcases (by omega : q = 0 ∨ q = 1 ∨ q = 2 ∨ q = 3 ∨ q = 4 ∨ q = 5 ∨ q = 6 ∨ q = 7 ∨ q = 8) with h | h | h | h | h | h | h | h | h <;> subst h <;> first | exact .inr rfl | exact .inl (LS.leX.setBox (by omega) _)) ?_
    rintro _ _ ⟨rfl, rfl⟩
    repeat (first | refine LRl.nil ?_ | refine LRl.valA ?_ | refine LRl.outA ?_ | refine LRl.whenA ?_ | refine LRl.pickA ?_)
    refine LRl.actA0 (LDo.store hD rfl rfl ((box_set _ _ _)) rfl rfl rfl rfl).toAct rfl rfl rfl (by
      rintro _ _ ⟨rfl, rfl⟩ q hq
      rcases (by omega : q = 0 ∨ q = 1 ∨ q = 2 ∨ q = 3 ∨ q = 4 ∨ q = 5 ∨ q = 6 ∨ q = 7 ∨ q = 8 ∨ q = 9 ∨ q = 10) with h | h | h | h | h | h | h | h | h | h | h <;> subst h <;> first | exact .inr rfl | exact .inl (LS.leX.setBox (by omega) _)) ?_
    rintro _ _ ⟨rfl, rfl⟩
    repeat (first | refine LRl.nil ?_ | refine LRl.valA ?_ | refine LRl.outA ?_ | refine LRl.whenA ?_ | refine LRl.pickA ?_)
    refine LWp.gen (fun S' => S.le S' ∧ S'.box b2 = some (ndL n) ∧ S'.box b3 = some (hdL h) ∧ S'.box b4 = some (ndX n (rsl xa 0 m m) (rsl ya 0 m m) Za) ∧ S'.box b5 = some (ndX n (rsl xb (m * 1) (n.keys.length - m) (cxb - m)) (rsl yb (m * 1) (n.vals.length - m) (cyb - m)) Zb) ∧ Sto Sc S' b4 b5 b5) ⟨(hle.setBox s5 _).setBox s5 _, (box_set_ne _ _ n2_5).trans ((box_set_ne _ _ n2_5).trans k2), (box_set_ne _ _ n3_5).trans ((box_set_ne _ _ n3_5).trans k3), (box_set_ne _ _ n4_5).trans ((box_set_ne _ _ n4_5).trans k4), (box_set _ _ _).trans rfl, fun d cs hd h1 h2 h3 => (box_set_ne _ _ h2).trans ((box_set_ne _ _ h2).trans (hst d cs hd h1 h2 h3))⟩ ?_
    clear hle k2 k3 k4 k5 hst
    rintro Se ⟨hle, k2, k3, k4, k5, hst⟩
    repeat (first | refine LOps.nil ?_ | refine andThen_normal ?_ | refine andThen_exit ?_ | refine andThen_ret ?_ | refine inBlock_normal ?_ | refine inBlock_ret ?_ | refine inBlock_here ?_ | refine inBlock_out rfl ?_ | refine LWp.seq ?_ | refine LWp.region ?_ | refine LWp.block ?_ | refine LWp.exit ?_ | refine LWp.ret ?_ | refine LWp.skip ?_ | refine LOps.valA ?_ | refine LOps.outA ?_ | refine LOps.whenA ?_ | refine LOps.pickA ?_ | refine LOps.storeA ?_)
    refine LWp.drawX (fun b => b = b4) [0, 1, 2, 3, 4, 5, 6, 7] (by rw [hP]; rfl) rfl ?_
    repeat (first | refine LRl.valH (LVal.load hD rfl rfl k3 rfl rfl) ?_ (fun _ hS => LVal.load hD rfl rfl (hS.box _ _ k3 (by first | exact id | (intro hx; rcases hx with hx | hx <;> omega) | (intro hx; have hx2 : _ = _ := hx; omega) | (intro hx; exact absurd hx.1 (by decide)))) rfl rfl) | refine LRl.nil ?_ | refine LRl.valA ?_ | refine LRl.outA ?_ | refine LRl.whenA ?_ | refine LRl.pickA ?_)
    refine LRl.actA0 (LDo.store hD rfl rfl (k4) rfl rfl rfl rfl).toAct rfl rfl rfl (by
      rintro _ _ ⟨rfl, rfl⟩ q hq
      rcases (by omega : q = 0 ∨ q = 1 ∨ q = 2) with h | h | h <;> subst h <;> first | exact .inr rfl | exact .inl (LS.leX.setBox (by omega) _)) ?_
    rintro _ _ ⟨rfl, rfl⟩
    repeat (first | refine LRl.nil ?_ | refine LRl.valA ?_ | refine LRl.outA ?_ | refine LRl.whenA ?_ | refine LRl.pickA ?_)
    refine LRl.actA0 (LDo.store hD rfl rfl ((box_set _ _ _)) rfl rfl rfl rfl).toAct rfl rfl rfl (by
      rintro _ _ ⟨rfl, rfl⟩ q hq
      rcases (by omega : q = 0 ∨ q = 1 ∨ q = 2 ∨ q = 3 ∨ q = 4) with h | h | h | h | h <;> subst h <;> first | exact .inr rfl | exact .inl (LS.leX.setBox (by omega) _)) ?_
    rintro _ _ ⟨rfl, rfl⟩
    repeat (first | refine LRl.nil ?_ | refine LRl.valA ?_ | refine LRl.outA ?_ | refine LRl.whenA ?_ | refine LRl.pickA ?_)
    refine LRl.actA0 (LDo.store hD rfl rfl ((box_set _ _ _)) rfl rfl rfl rfl).toAct rfl rfl rfl (by
      rintro _ _ ⟨rfl, rfl⟩ q hq
      rcases (by omega : q = 0 ∨ q = 1 ∨ q = 2 ∨ q = 3 ∨ q = 4 ∨ q = 5 ∨ q = 6) with h | h | h | h | h | h | h <;> subst h <;> first | exact .inr rfl | exact .inl (LS.leX.setBox (by omega) _)) ?_
    rintro _ _ ⟨rfl, rfl⟩
    repeat (first | refine LRl.nil ?_ | refine LRl.valA ?_ | refine LRl.outA ?_ | refine LRl.whenA ?_ | refine LRl.pickA ?_)
    refine LWp.gen (fun S' => S.le S' ∧ S'.box b4 = some (ndX (n.lowL m h) (rsl xa 0 m m) (rsl ya 0 m m) Za) ∧ S'.box b5 = some (ndX (n.upL m) (rsl xb (m * 1) (n.keys.length - m) (cxb - m)) (rsl yb (m * 1) (n.vals.length - m) (cyb - m)) Zb) ∧ Sto Sc S' b4 b5 b5) ⟨((hle.setBox s4 _).setBox s4 _).setBox s4 _, (box_set _ _ _).trans (by rw [← hsep]; rfl), (box_set_ne _ _ m5_4).trans ((box_set_ne _ _ m5_4).trans ((box_set_ne _ _ m5_4).trans k5)), fun d cs hd h1 h2 h3 => (box_set_ne _ _ h1).trans ((box_set_ne _ _ h1).trans ((box_set_ne _ _ h1).trans (hst d cs hd h1 h2 h3)))⟩ ?_
    clear hle k2 k3 k4 k5 hst
    rintro Sf ⟨hle, k4, k5, hst⟩
    refine LWp.seq ?_
    refine LWp.drawF (fun q b => (q = 1 ∧ b = b4) ∨ (q = 2 ∧ (b = b4 ∨ b = b5))) [0, 1, 2, 3, 4, 5] (by rw [hP]; rfl) rfl ?_
    repeat (first | refine LRl.valH (LVal.load hD rfl rfl k4 rfl rfl) ?_ (fun _ hS => LVal.load hD rfl rfl (hS.box _ _ k4 (by first | exact id | (intro hx; rcases hx with hx | hx <;> omega) | (intro hx; have hx2 : _ = _ := hx; omega) | (intro hx; exact absurd hx.1 (by decide)))) rfl rfl) | refine LRl.valH (LVal.load hD rfl rfl k5 rfl rfl) ?_ (fun _ hS => LVal.load hD rfl rfl (hS.box _ _ k5 (by first | exact id | (intro hx; rcases hx with hx | hx <;> omega) | (intro hx; have hx2 : _ = _ := hx; omega) | (intro hx; exact absurd hx.1 (by decide)))) rfl rfl) | refine LRl.nil ?_ | refine LRl.valA ?_ | refine LRl.outA ?_ | refine LRl.whenA ?_ | refine LRl.pickA ?_)
    refine LRl.actA0 (LDo.store hD rfl rfl (k4) rfl rfl rfl rfl).toAct rfl rfl rfl (by
      rintro _ _ ⟨rfl, rfl⟩ q hq
      rcases (by omega : q = 0 ∨ q = 1 ∨ q = 2) with h | h | h <;> subst h <;> first | exact .inr rfl | exact .inl (LS.leX.setBox (by omega) _)) ?_
    rintro _ _ ⟨rfl, rfl⟩
    refine LRl.actA0 (LDo.store hD rfl rfl ((box_set_ne _ _ m5_4).trans k5) rfl rfl rfl rfl).toAct rfl rfl rfl (by
      rintro _ _ ⟨rfl, rfl⟩ q hq
      rcases (by omega : q = 0 ∨ q = 1 ∨ q = 2 ∨ q = 3) with h | h | h | h <;> subst h <;> first | exact .inr rfl | exact .inl (LS.leX.setBox (by omega) _)) ?_
    rintro _ _ ⟨rfl, rfl⟩
    repeat (first | refine LRl.nil ?_ | refine LRl.valA ?_ | refine LRl.outA ?_ | refine LRl.whenA ?_ | refine LRl.pickA ?_)
    repeat (first | refine LOps.nil ?_ | refine andThen_normal ?_ | refine andThen_exit ?_ | refine andThen_ret ?_ | refine inBlock_normal ?_ | refine inBlock_ret ?_ | refine inBlock_here ?_ | refine inBlock_out rfl ?_ | refine LWp.seq ?_ | refine LWp.region ?_ | refine LWp.block ?_ | refine LWp.exit ?_ | refine LWp.ret ?_ | refine LWp.skip ?_ | refine LOps.valA ?_ | refine LOps.outA ?_ | refine LOps.whenA ?_ | refine LOps.pickA ?_ | refine LOps.storeA ?_)
    rw [hsep]
    have RA : Rwp S Sc (n.lowL m h) (rsl xa 0 m m) (rsl ya 0 m m) Za := ⟨PtAt.lo sL_len wxa (by omega), PtAt.lo sL_len wya (by omega), Ra.z.pt hdL_len, Ra.nx, Ra.ny, Ra.nz, Ra.xy, Ra.xz, Ra.yz⟩
    have RB : Rwp S Sc (n.upL m) (rsl xb (m * 1) (n.keys.length - m) (cxb - m)) (rsl yb (m * 1) (n.vals.length - m) (cyb - m)) Zb := ⟨PtAt.hi sL_len wxb (by omega), PtAt.hi sL_len wyb (by omega), Rb.z.pt hdL_len, Rb.nx, Rb.ny, Rb.nz, Rb.xy, Rb.xz, Rb.yz⟩
    have hst2 : ∀ {d : Nat} {cs : List LV} {v w : List LV}, Sc.box d = some cs → d ≠ b4 → d ≠ b5 → ((Sf.setBox b4 v).setBox b5 w).box d = some cs := fun hd h1 h2 => (box_set_ne _ _ h2).trans ((box_set_ne _ _ h1).trans (hst _ _ hd h1 h2 h2))
    have oa : ∀ d, blockOf (rsl xa 0 m m) = some d ∨ blockOf (rsl ya 0 m m) = some d ∨ blockOf (Za) = some d → d ≠ b4 ∧ d ≠ b5 := fun d hd => ⟨fun e => by subst e; rcases hd with h | h | h; exact offa4.1 h; exact offa4.2.1 h; exact offa4.2.2 h, fun e => by subst e; rcases hd with h | h | h; exact offa5.1 h; exact offa5.2.1 h; exact offa5.2.2 h⟩
    have ob : ∀ d, blockOf (rsl xb (m * 1) (n.keys.length - m) (cxb - m)) = some d ∨ blockOf (rsl yb (m * 1) (n.vals.length - m) (cyb - m)) = some d ∨ blockOf (Zb) = some d → d ≠ b4 ∧ d ≠ b5 := fun d hd => ⟨fun e => by subst e; rcases hd with h | h | h; exact offb4.1 h; exact offb4.2.1 h; exact offb4.2.2 h, fun e => by subst e; rcases hd with h | h | h; exact offb5.1 h; exact offb5.2.1 h; exact offb5.2.2 h⟩
    exact ⟨_, splitRes2 (x := n.lowL m h) (y := n.upL m) hP rfl rfl ((box_set_ne _ _ n4_5).trans (box_set _ _ _)) rfl (box_set _ _ _) rfl, _, _, _, _, _, _, rfl, (hle.setBox s4 _).setBox s5 _, RA.keep fun d cs hd hx => hst2 hd (oa d hx).1 (oa d hx).2, RB.keep fun d cs hd hx => hst2 hd (ob d hx).1 (ob d hx).2, apt⟩
  have hl : n.leaf = false := hl
  obtain ⟨hvl, hkd⟩ := rightN_inner hr hl
  rw [if_neg (by rw [hl]; decide)]
  obtain ⟨za, cza, rza, rfl, wza⟩ := Ra.z.row_of (by omega)
  obtain ⟨zb, czb, rzb, rfl, wzb⟩ := Rb.z.row_of (by omega)
  have hczb := wzb.cap
  have hcza := wza.cap
  repeat (first | refine LOps.valH (LVal.load hD rfl rfl k4 rfl rfl) ?_ | refine LOps.valH (LVal.to (LVal.add64 rfl rfl rfl (by omega)) (r' := .one (iv ((m + 1 : Nat) : Int))) (by exact congrArg (fun x => TV.one (iv x)) (by omega))) ?_ | refine LOps.valH (LVal.to (LVal.slice3R (l := 0) (h := m + 1) (m := m + 1) hD rfl rfl rfl rfl rfl rfl rfl rfl rfl (by omega) (by omega) (by omega)) (r' := .one (rsl za 0 (m + 1) (m + 1))) (by exact congrArg (fun q => TV.one (rsl za q (m + 1) (m + 1))) (partOff_00 _ _))) ?_ | refine LOps.nil ?_ | refine andThen_normal ?_ | refine andThen_exit ?_ | refine andThen_ret ?_ | refine inBlock_normal ?_ | refine inBlock_ret ?_ | refine inBlock_here ?_ | refine inBlock_out rfl ?_ | refine LWp.seq ?_ | refine LWp.region ?_ | refine LWp.block ?_ | refine LWp.exit ?_ | refine LWp.ret ?_ | refine LWp.skip ?_ | refine LOps.valA ?_ | refine LOps.outA ?_ | refine LOps.whenA ?_ | refine LOps.pickA ?_)
  refine LOps.storeA (b := b4) (off := 3) (cs := ndX n (rsl xa 0 m m) Ya (rsl za 0 n.kids.length cza)) (l := [rsl za 0 (m + 1) (m + 1)]) ?_
  refine LOps.gen (fun S' => S.le S' ∧ S'.box b2 = some (ndL n) ∧ S'.box b3 = some (hdL h) ∧ S'.box b4 = some (ndX n (rsl xa 0 m m) Ya (rsl za 0 (m + 1) (m + 1))) ∧ S'.box b5 = some (ndX n (rsl xb 0 n.keys.length cxb) Yb (rsl zb 0 n.kids.length czb)) ∧ Sto Sc S' b4 b5 b5) ⟨hle.setBox s4 _, (box_set_ne _ _ n2_4).trans k2, (box_set_ne _ _ n3_4).trans k3, box_set _ _ _, (box_set_ne _ _ m5_4).trans k5, fun d cs hd h1 h2 h3 => (box_set_ne _ _ h1).trans (hst d cs hd h1 h2 h3)⟩ ?_
  clear hle k2 k3 k4 k5 hst
  rintro Se ⟨hle, k2, k3, k4, k5, hst⟩
  refine LOps.nil ?_
  refine andThen_normal ?_
  refine LWp.drawF (fun q b => (q = 7 ∨ q = 8 ∨ q = 9) ∧ b = b5) [0, 1, 2, 3, 4, 5, 6, 7, 8, 9, 10, 11, 12, 13] (by rw [hP]; rfl) rfl ?_
  have h3 : 3 ≤ n.keys.length := hlo3 hl
  repeat (first | refine LRl.valH (LVal.load hD rfl rfl k5 rfl rfl) ?_ (fun _ hS => LVal.load hD rfl rfl (hS.box _ _ k5 (by first | exact id | (intro hx; rcases hx with hx | hx <;> omega) | (intro hx; have hx2 : _ = _ := hx; omega) | (intro hx; exact absurd hx.1 (by decide)))) rfl rfl) | refine LRl.val (fun _ _ => LVal.to (LVal.add64 rfl rfl rfl (by omega)) (r' := .one (iv ((m + 1 : Nat) : Int))) (by exact congrArg (fun x => TV.one (iv x)) (by omega))) rfl rfl rfl ?_ | refine LRl.val (fun _ _ => LVal.to (LVal.sliceR (l := m + 1) (h := n.keys.length) hD rfl rfl rfl rfl rfl rfl rfl (by omega) (by omega)) (r' := .one (rsl xb ((m + 1) * 1) (n.keys.length - (m + 1)) (cxb - (m + 1)))) (by exact congrArg (fun q => TV.one (rsl xb q (n.keys.length - (m + 1)) (cxb - (m + 1)))) (partOff_0 _ _ _ (by omega)))) rfl rfl rfl ?_ | refine LRl.val (fun _ _ => LVal.to (LVal.sliceR (l := m + 1) (h := n.kids.length) hD rfl rfl rfl rfl rfl rfl rfl (by omega) (by omega)) (r' := .one (rsl zb ((m + 1) * 2) (n.kids.length - (m + 1)) (czb - (m + 1)))) (by exact congrArg (fun q => TV.one (rsl zb q (n.kids.length - (m + 1)) (czb - (m + 1)))) (partOff_0 _ _ _ (by omega)))) rfl rfl rfl ?_ | refine LRl.nil ?_ | refine LRl.valA ?_ | refine LRl.outA ?_ | refine LRl.whenA ?_ | refine LRl.pickA ?_)
  refine LRl.actA0 (LDo.store hD rfl rfl (k5) rfl rfl rfl rfl).toAct rfl rfl rfl (by
    rintro _ _ ⟨rfl, rfl⟩ q hq
    rcases (by omega : q = 0 ∨ q = 1 ∨ q = 2 ∨ q = 3 ∨ q = 4 ∨ q = 5 ∨ q = 6 ∨ q = 7 ∨ q = 8 ∨ q = 9 ∨ q = 10) with h | h | h | h | h | h | h | h | h | h | h <;> subst h <;> first | exact .inr rfl | exact .inl (LS.leX.setBox (by omega) _)) ?_
  rintro _ _ ⟨rfl, rfl⟩
  repeat (first | refine LRl.nil ?_ | refine LRl.valA ?_ | refine LRl.outA ?_ | refine LRl.whenA ?_ | refine LRl.pickA ?_)
  refine LRl.actA0 (LDo.store hD rfl rfl ((box_set _ _ _)) rfl rfl rfl rfl).toAct rfl rfl rfl (by
    rintro _ _ ⟨rfl, rfl⟩ q hq
    rcases (by omega : q = 0 ∨ q = 1 ∨ q = 2 ∨ q = 3 ∨ q = 4 ∨ q = 5 ∨ q = 6 ∨ q = 7 ∨ q = 8 ∨ q = 9 ∨ q = 10 ∨ q = 11 ∨ q = 12) with h | h | h | h | h | h | h | h | h | h | h | h | h <;> subst h <;> first | exact .inr rfl | exact .inl (LS.leX.setBox (by omega) _)) ?_
  rintro _ _ ⟨rfl, rfl⟩
  repeat (first | refine LRl.nil ?_ | refine LRl.valA ?_ | refine LRl.outA ?_ | refine LRl.whenA ?_ | refine LRl.pickA ?_)
  refine LWp.gen (fun S' => S.le S' ∧ S'.box b2 = some (ndL n) ∧ S'.box b3 = some (hdL h) ∧ S'.box b4 = some (ndX n (rsl xa 0 m m) Ya (rsl za 0 (m + 1) (m + 1))) ∧ S'.box b5 = some (ndX n (rsl xb ((m + 1) * 1) (n.keys.length - (m + 1)) (cxb - (m + 1))) Yb (rsl zb ((m + 1) * 2) (n.kids.length - (m + 1)) (czb - (m + 1)))) ∧ Sto Sc S' b4 b5 b5) ⟨(hle.setBox s5 _).setBox s5 _, (box_set_ne _ _ n2_5).trans ((box_set_ne _ _ n2_5).trans k2), (box_set_ne _ _ n3_5).trans ((box_set_ne _ _ n3_5).trans k3), (box_set_ne _ _ n4_5).trans ((box_set_ne _ _ n4_5).trans k4), (box_set _ _ _).trans rfl, fun d cs hd h1 h2 h3 => (box_set_ne _ _ h2).trans ((box_set_ne _ _ h2).trans (hst d cs hd h1 h2 h3))⟩ ?_
  clear hle k2 k3 k4 k5 hst
  rintro Se ⟨hle, k2, k3, k4, k5, hst⟩
  repeat (first | refine LOps.nil ?_ | refine andThen_normal ?_ | refine andThen_exit ?_ | refine andThen_ret ?_ | refine inBlock_normal ?_ | refine inBlock_ret ?_ | refine inBlock_here ?_ | refine inBlock_out rfl ?_ | refine LWp.seq ?_ | refine LWp.region ?_ | refine LWp.block ?_ | refine LWp.exit ?_ | refine LWp.ret ?_ | refine LWp.skip ?_ | refine LOps.valA ?_ | refine LOps.outA ?_ | refine LOps.whenA ?_ | refine LOps.pickA ?_ | refine LOps.storeA ?_)
  refine LWp.drawX (fun b => b = b4) [0, 1, 2, 3, 4, 5, 6, 7] (by rw [hP]; rfl) rfl ?_
  repeat (first | refine LRl.valH (LVal.load hD rfl rfl k3 rfl rfl) ?_ (fun _ hS => LVal.load hD rfl rfl (hS.box _ _ k3 (by first | exact id | (intro hx; rcases hx with hx | hx <;> omega) | (intro hx; have hx2 : _ = _ := hx; omega) | (intro hx; exact absurd hx.1 (by decide)))) rfl rfl) | refine LRl.nil ?_ | refine LRl.valA ?_ | refine LRl.outA ?_ | refine LRl.whenA ?_ | refine LRl.pickA ?_)
  refine LRl.actA0 (LDo.store hD rfl rfl (k4) rfl rfl rfl rfl).toAct rfl rfl rfl (by
    rintro _ _ ⟨rfl, rfl⟩ q hq
    rcases (by omega : q = 0 ∨ q = 1 ∨ q = 2) with h | h | h <;> subst h <;> first | exact .inr rfl | exact .inl (LS.leX.setBox (by omega) _)) ?_
  rintro _ _ ⟨rfl, rfl⟩
  repeat (first | refine LRl.nil ?_ | refine LRl.valA ?_ | refine LRl.outA ?_ | refine LRl.whenA ?_ | refine LRl.pickA ?_)
  refine LRl.actA0 (LDo.store hD rfl rfl ((box_set _ _ _)) rfl rfl rfl rfl).toAct rfl rfl rfl (by
    rintro _ _ ⟨rfl, rfl⟩ q hq
    rcases (by omega : q = 0 ∨ q = 1 ∨ q = 2 ∨ q = 3 ∨ q = 4) with h | h | h | h | h <;> subst h <;> first | exact .inr rfl | exact .inl (LS.leX.setBox (by omega) _)) ?_
  rintro _ _ ⟨rfl, rfl⟩
  repeat (first | refine LRl.nil ?_ | refine LRl.valA ?_ | refine LRl.outA ?_ | refine LRl.whenA ?_ | refine LRl.pickA ?_)
  refine LRl.actA0 (LDo.store hD rfl rfl ((box_set _ _ _)) rfl rfl rfl rfl).toAct rfl rfl rfl (by
    rintro _ _ ⟨rfl, rfl⟩ q hq
    rcases (by omega : q = 0 ∨ q = 1 ∨ q = 2 ∨ q = 3 ∨ q = 4 ∨ q = 5 ∨ q = 6) with h | h | h | h | h | h | h <;> subst h <;> first | exact .inr rfl | exact .inl (LS.leX.setBox (by omega) _)) ?_
  rintro _ _ ⟨rfl, rfl⟩
  repeat (first | refine LRl.nil ?_ | refine LRl.valA ?_ | refine LRl.outA ?_ | refine LRl.whenA ?_ | refine LRl.pickA ?_)
  refine LWp.gen (fun S' => S.le S' ∧ S'.box b4 = some (ndX (n.lowI m h) (rsl xa 0 m m) Ya (rsl za 0 (m + 1) (m + 1))) ∧ S'.box b5 = some (ndX (n.upI m) (rsl xb ((m + 1) * 1) (n.keys.length - (m + 1)) (cxb - (m + 1))) Yb (rsl zb ((m + 1) * 2) (n.kids.length - (m + 1)) (czb - (m + 1)))) ∧ Sto Sc S' b4 b5 b5) ⟨((hle.setBox s4 _).setBox s4 _).setBox s4 _, (box_set _ _ _).trans (by rw [← hsep]; rfl), (box_set_ne _ _ m5_4).trans ((box_set_ne _ _ m5_4).trans ((box_set_ne _ _ m5_4).trans k5)), fun d cs hd h1 h2 h3 => (box_set_ne _ _ h1).trans ((box_set_ne _ _ h1).trans ((box_set_ne _ _ h1).trans (hst d cs hd h1 h2 h3)))⟩ ?_
  clear hle k2 k3 k4 k5 hst
  rintro Sf ⟨hle, k4, k5, hst⟩
  refine LWp.seq ?_
  refine LWp.drawF (fun q b => (q = 1 ∧ b = b4) ∨ (q = 2 ∧ (b = b4 ∨ b = b5))) [0, 1, 2, 3, 4, 5] (by rw [hP]; rfl) rfl ?_
  repeat (first | refine LRl.valH (LVal.load hD rfl rfl k4 rfl rfl) ?_ (fun _ hS => LVal.load hD rfl rfl (hS.box _ _ k4 (by first | exact id | (intro hx; rcases hx with hx | hx <;> omega) | (intro hx; have hx2 : _ = _ := hx; omega) | (intro hx; exact absurd hx.1 (by decide)))) rfl rfl) | refine LRl.valH (LVal.load hD rfl rfl k5 rfl rfl) ?_ (fun _ hS => LVal.load hD rfl rfl (hS.box _ _ k5 (by first | exact id | (intro hx; rcases hx with hx | hx <;> omega) | (intro hx; have hx2 : _ = _ := hx; omega) | (intro hx; exact absurd hx.1 (by decide)))) rfl rfl) | refine LRl.nil ?_ | refine LRl.valA ?_ | refine LRl.outA ?_ | refine LRl.whenA ?_ | refine LRl.pickA ?_)
  refine LRl.actA0 (LDo.store hD rfl rfl (k4) rfl rfl rfl rfl).toAct rfl rfl rfl (by
    rintro _ _ ⟨rfl, rfl⟩ q hq
    rcases (by omega : q = 0 ∨ q = 1 ∨ q = 2) with h | h | h <;> subst h <;> first | exact .inr rfl | exact .inl (LS.leX.setBox (by omega) _)) ?_
  rintro _ _ ⟨rfl, rfl⟩
  refine LRl.actA0 (LDo.store hD rfl rfl ((box_set_ne _ _ m5_4).trans k5) rfl rfl rfl rfl).toAct rfl rfl rfl (by
    rintro _ _ ⟨rfl, rfl⟩ q hq
    rcases (by omega : q = 0 ∨ q = 1 ∨ q = 2 ∨ q = 3) with h | h | h | h <;> subst h <;> first | exact .inr rfl | exact .inl (LS.leX.setBox (by omega) _)) ?_
  rintro _ _ ⟨rfl, rfl⟩
  repeat (first | refine LRl.nil ?_ | refine LRl.valA ?_ | refine LRl.outA ?_ | refine LRl.whenA ?_ | refine LRl.pickA ?_)
  repeat (first | refine LOps.nil ?_ | refine andThen_normal ?_ | refine andThen_exit ?_ | refine andThen_ret ?_ | refine inBlock_normal ?_ | refine inBlock_ret ?_ | refine inBlock_here ?_ | refine inBlock_out rfl ?_ | refine LWp.seq ?_ | refine LWp.region ?_ | refine LWp.block ?_ | refine LWp.exit ?_ | refine LWp.ret ?_ | refine LWp.skip ?_ | refine LOps.valA ?_ | refine LOps.outA ?_ | refine LOps.whenA ?_ | refine LOps.pickA ?_ | refine LOps.storeA ?_)
  rw [hsep]
  have RA : Rwp S Sc (n.lowI m h) (rsl xa 0 m m) Ya (rsl za 0 (m + 1) (m + 1)) := ⟨PtAt.lo sL_len wxa (by omega), Ra.y.pt sL_len, PtAt.lo hdL_len wza (by omega), Ra.nx, Ra.ny, Ra.nz, Ra.xy, Ra.xz, Ra.yz⟩
  have RB : Rwp S Sc (n.upI m) (rsl xb ((m + 1) * 1) (n.keys.length - (m + 1)) (cxb - (m + 1))) Yb (rsl zb ((m + 1) * 2) (n.kids.length - (m + 1)) (czb - (m + 1))) := ⟨PtAt.hi sL_len wxb (by omega), Rb.y.pt sL_len, PtAt.hi hdL_len wzb (by omega), Rb.nx, Rb.ny, Rb.nz, Rb.xy, Rb.xz, Rb.yz⟩
  have hst2 : ∀ {d : Nat} {cs : List LV} {v w : List LV}, Sc.box d = some cs → d ≠ b4 → d ≠ b5 → ((Sf.setBox b4 v).setBox b5 w).box d = some cs := fun hd h1 h2 => (box_set_ne _ _ h2).trans ((box_set_ne _ _ h1).trans (hst _ _ hd h1 h2 h2))
  have oa : ∀ d, blockOf (rsl xa 0 m m) = some d ∨ blockOf (Ya) = some d ∨ blockOf (rsl za 0 (m + 1) (m + 1)) = some d → d ≠ b4 ∧ d ≠ b5 := fun d hd => ⟨fun e => by subst e; rcases hd with h | h | h; exact offa4.1 h; exact offa4.2.1 h; exact offa4.2.2 h, fun e => by subst e; rcases hd with h | h | h; exact offa5.1 h; exact offa5.2.1 h; exact offa5.2.2 h⟩
  have ob : ∀ d, blockOf (rsl xb ((m + 1) * 1) (n.keys.length - (m + 1)) (cxb - (m + 1))) = some d ∨ blockOf (Yb) = some d ∨ blockOf (rsl zb ((m + 1) * 2) (n.kids.length - (m + 1)) (czb - (m + 1))) = some d → d ≠ b4 ∧ d ≠ b5 := fun d hd => ⟨fun e => by subst e; rcases hd with h | h | h; exact offb4.1 h; exact offb4.2.1 h; exact offb4.2.2 h, fun e => by subst e; rcases hd with h | h | h; exact offb5.1 h; exact offb5.2.1 h; exact offb5.2.2 h⟩
  exact ⟨_, splitRes2 (x := n.lowI m h) (y := n.upI m) hP rfl rfl ((box_set_ne _ _ n4_5).trans (box_set _ _ _)) rfl (box_set _ _ _) rfl, _, _, _, _, _, _, rfl, (hle.setBox s4 _).setBox s5 _, RA.keep fun d cs hd hx => hst2 hd (oa d hx).1 (oa d hx).2, RB.keep fun d cs hd hx => hst2 hd (ob d hx).1 (ob d hx).2, apt⟩
end Go.Proofs.Ytjcpcgneghanfaa.LF
