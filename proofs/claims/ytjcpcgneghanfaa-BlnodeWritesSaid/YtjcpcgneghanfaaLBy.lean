/- The B-link node's law: the document's Put; the walk of of. -/
import Derived.Test.YtjcpcgneghanfaaLBx
set_option linter.unusedVariables false
set_option linter.unusedSimpArgs false
namespace Go.Proofs.Ytjcpcgneghanfaa.LF
open Go.RowKit
set_option linter.unusedVariables false

def stepP (k v : ByteArray) (s : List Pr × Bool) (p : Pr) : List Pr × Bool :=
  ((if !s.2 && !ltS p.key k then s.1 ++ [⟨k, v⟩] else s.1) ++ (if p.key = k then [] else [p]), s.2 || !ltS p.key k)
def foldP (l : List Pr) (k v : ByteArray) : List Pr × Bool := l.foldl (stepP k v) ([], false)
def putD (l : List Pr) (k v : ByteArray) : List Pr := if (foldP l k v).2 then (foldP l k v).1 else (foldP l k v).1 ++ [⟨k, v⟩]
theorem foldP_take {l : List Pr} {k v : ByteArray} {j : Nat} (h : j < l.length) : foldP (l.take (j + 1)) k v = stepP k v (foldP (l.take j) k v) l[j] := by
  unfold foldP
  rw [List.take_succ_eq_append_getElem h, List.foldl_append]; rfl
theorem foldP_len (l : List Pr) (k v : ByteArray) (j : Nat) : (foldP (l.take j) k v).1.length ≤ 2 * j := by
  induction j with
  | zero => simp [foldP]
  | succ j ih =>
    by_cases h : j < l.length
    · rw [foldP_take h]
      unfold stepP
      simp only [List.length_append]
      have h1 : (if !(foldP (l.take j) k v).2 && !ltS l[j].key k then (foldP (l.take j) k v).1 ++ [⟨k, v⟩] else (foldP (l.take j) k v).1).length ≤ 2 * j + 1 := by
        split
        · simp; omega
        · omega
      have h2 : (if l[j].key = k then [] else [l[j]]).length ≤ 1 := by split <;> simp
      omega
    · rw [List.take_of_length_le (by omega)]
      rw [List.take_of_length_le (by omega)] at ih
      omega
theorem fold_lo {k v : ByteArray} : ∀ (L : List Pr) (m : List Pr), (∀ p ∈ L, ltS p.key k = true) → L.foldl (stepP k v) (m, false) = (m ++ L, false)
  | [], m, _ => by simp
  | p :: L, m, h => by
    have h1 := h p (by simp)
    have hne : p.key ≠ k := fun e => by rw [e, ltS_irrefl] at h1; cases h1
    rw [List.foldl_cons, show stepP k v (m, false) p = (m ++ [p], false) by unfold stepP; rw [h1, if_neg hne]; rfl, fold_lo L _ fun q hq => h q (by simp [hq])]
    simp
theorem fold_hi {k v : ByteArray} : ∀ (R : List Pr) (m : List Pr), (∀ p ∈ R, ltS k p.key = true) → R.foldl (stepP k v) (m, true) = (m ++ R, true)
  | [], m, _ => by simp
  | p :: R, m, h => by
    have h1 := h p (by simp)
    have hne : p.key ≠ k := fun e => by rw [e, ltS_irrefl] at h1; cases h1
    rw [List.foldl_cons, show stepP k v (m, true) p = (m ++ [p], true) by unfold stepP; rw [if_neg hne]; rfl, fold_hi R _ fun q hq => h q (by simp [hq])]
    simp
theorem putD_srt {l : List Pr} (h : Srt l) (k v : ByteArray) : putD l k v = setP l k v := by
  obtain ⟨L, o, R, c⟩ := cut_of h k
  rw [c.setO v]
  unfold putD foldP
  rw [c.eq, List.append_assoc, List.foldl_append, fold_lo L [] c.lo, List.nil_append]
  cases o with
  | some p =>
    have hp := c.mid p rfl
    have e : stepP k v (L, false) p = (L ++ [⟨k, v⟩], true) := by unfold stepP; rw [hp, ltS_irrefl, if_pos rfl]; simp
    show (if (List.foldl (stepP k v) (stepP k v (L, false) p) R).2 then (List.foldl (stepP k v) (stepP k v (L, false) p) R).1 else _) = _
    rw [e, fold_hi R _ c.hi, if_pos rfl]
    simp
  | none =>
    show (if (List.foldl (stepP k v) (L, false) R).2 then (List.foldl (stepP k v) (L, false) R).1 else (List.foldl (stepP k v) (L, false) R).1 ++ [⟨k, v⟩]) = _
    cases hR : R with
    | nil => simp
    | cons q R' =>
      have h1 := c.hi q (by rw [hR]; simp)
      have hne : q.key ≠ k := fun e => by rw [e, ltS_irrefl] at h1; cases h1
      have e : stepP k v (L, false) q = (L ++ [⟨k, v⟩] ++ [q], true) := by unfold stepP; rw [ltS_asymm h1, if_neg hne]; rfl
      rw [List.foldl_cons, e, fold_hi R' _ (fun p hp => c.hi p (by rw [hR]; simp [hp])), if_pos rfl]
      simp

set_option maxHeartbeats 8000000 in
theorem putD_L {G : Ctx} (hP : G.P = Try.prog) (l : List Pr) (hl : l.length ≤ 100000) (hz : ∀ p ∈ l, p.key.size ≤ B47) (k v : ByteArray) (hk : k.size ≤ B47) (S : LS) : LCalls G 31 [.one (.sl .sh (l.map prL)), .one (sv k), .one (sv v)] (fun r S' => ∃ o, r = .one (.sl o ((putD l k v).map prL)) ∧ S.le S') S := by
  have hD : TabOK G.P D := by rw [hP]; exact hD0
  have ml : (l.map prL).length = l.length := List.length_map ..
  haveI : Inhabited Pr := ⟨⟨noBytes, noBytes⟩⟩
  refine LCalls.enter (fn := Try.f31) (by rw [hP]; exact Try.func31) rfl rfl ?_
  repeat (first | refine LOps.nil ?_ | refine andThen_normal ?_ | refine andThen_exit ?_ | refine andThen_ret ?_ | refine inBlock_normal ?_ | refine inBlock_ret ?_ | refine inBlock_here ?_ | refine inBlock_out rfl ?_ | refine LWp.seq ?_ | refine LWp.region ?_ | refine LWp.block ?_ | refine LWp.exit ?_ | refine LWp.ret ?_ | refine LWp.skip ?_ | refine LOps.valA ?_ | refine LOps.outA ?_ | refine LOps.whenA ?_ | refine LOps.pickA ?_ | refine LOps.storeA ?_)
  refine LWp.loop (fun m T S' => ∃ (T' : Nat → TV) (j : Nat) (o : Own), j ≤ l.length ∧ m = l.length - j ∧ S.le S' ∧ Owned S' 68 (foldP (l.take j) k v).1.length o ∧ Out S o ∧ T = over T' [(0, .one (.sl .sh (l.map prL))), (1, .one (sv k)), (2, .one (sv v)), (7, .one (.sl o ((foldP (l.take j) k v).1.map prL))), (8, .one (bv (foldP (l.take j) k v).2)), (9, .one (iv (j : Nat)))]) l.length ?_ ?_
  · exact ⟨_, 0, .nil, by omega, by omega, .refl _, rfl, .nil _, holds.over ⟨rfl, rfl, rfl, rfl, rfl, rfl, trivial⟩⟩
  rintro m T S1 ⟨T', j, o, hj, rfl, hle, hown, hout, rfl⟩
  have hlen := foldP_len l k v j
  repeat (first | refine LOps.nil ?_ | refine andThen_normal ?_ | refine andThen_exit ?_ | refine andThen_ret ?_ | refine inBlock_normal ?_ | refine inBlock_ret ?_ | refine inBlock_here ?_ | refine inBlock_out rfl ?_ | refine LWp.seq ?_ | refine LWp.region ?_ | refine LWp.block ?_ | refine LWp.exit ?_ | refine LWp.ret ?_ | refine LWp.skip ?_ | refine LOps.valA ?_ | refine LOps.outA ?_ | refine LOps.whenA ?_ | refine LOps.pickA ?_ | refine LOps.storeA ?_)
  refine LWp.cond rfl (fun h => ?_) (fun h => ?_)
  · have hlt : j < l.length := by simp at h; omega
    have hst := foldP_take (k := k) (v := v) hlt
    have hgd : l.getD j default = l[j] := by rw [List.getD_eq_getElem?_getD, List.getElem?_eq_getElem hlt]; rfl
    have c1 := less_F hP l[j].key k (Nat.le_trans (hz _ (List.getElem_mem _)) (by decide)) (Nat.le_trans hk (by decide))
    generalize foldP (l.take j) k v = st at *
    obtain ⟨ms, d⟩ := st
    have hlen : ms.length ≤ 2 * j := hlen
    have hown : Owned S1 68 ms.length o := hown
    refine LWp.skip ?_
    refine andThen_normal ?_
    refine LWp.seq ?_
    refine LWp.block ?_
    refine LWp.seq (LWp.cut 6 (fun T' S' => ∃ (T'' : Nat → TV) (o1 : Own), S.le S' ∧ Owned S' 68 (if !d && !ltS l[j].key k then ms ++ [⟨k, v⟩] else ms).length o1 ∧ Out S o1 ∧ T' = over T'' [(0, .one (.sl .sh (l.map prL))), (1, .one (sv k)), (2, .one (sv v)), (7, .one (.sl o1 ((if !d && !ltS l[j].key k then ms ++ [⟨k, v⟩] else ms).map prL))), (8, .one (bv (d || !ltS l[j].key k))), (9, .one (iv (j : Nat)))]) rfl ?_ ?_)
    · repeat (first | refine LOps.whenC (LVal.call rfl rfl (by rw [hP]; exact Try.func37) rfl (by decide) c1) ?_ | refine LOps.nil ?_ | refine andThen_normal ?_ | refine andThen_exit ?_ | refine andThen_ret ?_ | refine inBlock_normal ?_ | refine inBlock_ret ?_ | refine inBlock_here ?_ | refine inBlock_out rfl ?_ | refine LWp.seq ?_ | refine LWp.region ?_ | refine LWp.block ?_ | refine LWp.exit ?_ | refine LWp.ret ?_ | refine LWp.skip ?_ | refine LOps.valA ?_ | refine LOps.outA ?_ | refine LOps.whenA ?_ | refine LOps.pickA ?_ | refine LOps.storeA ?_)
      refine LWp.cond rfl (fun h2 => ?_) (fun h2 => ?_)
      · have h2 : (!d && !ltS l[j].key k) = true := h2
        repeat (first | refine LOps.nil ?_ | refine andThen_normal ?_ | refine andThen_exit ?_ | refine andThen_ret ?_ | refine inBlock_normal ?_ | refine inBlock_ret ?_ | refine inBlock_here ?_ | refine inBlock_out rfl ?_ | refine LWp.seq ?_ | refine LWp.region ?_ | refine LWp.block ?_ | refine LWp.exit ?_ | refine LWp.ret ?_ | refine LWp.skip ?_ | refine LOps.valA ?_ | refine LOps.outA ?_ | refine LOps.whenA ?_ | refine LOps.pickA ?_ | refine LOps.storeA ?_)
        refine LOps.do (LDo.push hD rfl rfl rfl rfl rfl rfl rfl rfl rfl rfl (show _ = ms.length by simp) hown (by omega)) rfl rfl rfl ?_
        rintro _ S2 ⟨o', rfl, own2, hup, hno'⟩
        repeat (first | refine LOps.nil ?_ | refine andThen_normal ?_ | refine andThen_exit ?_ | refine andThen_ret ?_ | refine inBlock_normal ?_ | refine inBlock_ret ?_ | refine inBlock_here ?_ | refine inBlock_out rfl ?_ | refine LWp.seq ?_ | refine LWp.region ?_ | refine LWp.block ?_ | refine LWp.exit ?_ | refine LWp.ret ?_ | refine LWp.skip ?_ | refine LOps.valA ?_ | refine LOps.outA ?_ | refine LOps.whenA ?_ | refine LOps.pickA ?_ | refine LOps.storeA ?_)
        rw [if_pos h2]
        rw [Bool.and_eq_true] at h2
        exact ⟨_, o', hle.upto hup hout, by rw [List.length_append]; exact own2, hout.next hle hno', holds.over ⟨rfl, rfl, rfl, by rw [List.map_append]; rfl, by rw [h2.2, Bool.or_true]; rfl, rfl, trivial⟩⟩
      · have h2 : (!d && !ltS l[j].key k) = false := h2
        repeat (first | refine LOps.nil ?_ | refine andThen_normal ?_ | refine andThen_exit ?_ | refine andThen_ret ?_ | refine inBlock_normal ?_ | refine inBlock_ret ?_ | refine inBlock_here ?_ | refine inBlock_out rfl ?_ | refine LWp.seq ?_ | refine LWp.region ?_ | refine LWp.block ?_ | refine LWp.exit ?_ | refine LWp.ret ?_ | refine LWp.skip ?_ | refine LOps.valA ?_ | refine LOps.outA ?_ | refine LOps.whenA ?_ | refine LOps.pickA ?_ | refine LOps.storeA ?_)
        rw [if_neg (by rw [h2]; decide)]
        refine ⟨_, o, hle, hown, hout, holds.over ⟨rfl, rfl, rfl, rfl, ?_, rfl, trivial⟩⟩
        have e : (d || !ltS l[j].key k) = d := by
          cases d <;> simp_all
        rw [e]; rfl
    rintro _ S3 ⟨T3, o1, hle, hown, hout, rfl⟩
    have hlen2 : (if !d && !ltS l[j].key k then ms ++ [⟨k, v⟩] else ms).length ≤ 2 * j + 1 := by
      split
      · simp; omega
      · omega
    have hst2 : foldP (l.take (j + 1)) k v = ((if !d && !ltS l[j].key k then ms ++ [⟨k, v⟩] else ms) ++ (if l[j].key = k then [] else [l[j]]), d || !ltS l[j].key k) := hst
    generalize (if !d && !ltS l[j].key k then ms ++ [⟨k, v⟩] else ms) = m2 at *
    generalize (d || !ltS l[j].key k) = d2 at *
    repeat (first | refine LOps.nil ?_ | refine andThen_normal ?_ | refine andThen_exit ?_ | refine andThen_ret ?_ | refine inBlock_normal ?_ | refine inBlock_ret ?_ | refine inBlock_here ?_ | refine inBlock_out rfl ?_ | refine LWp.seq ?_ | refine LWp.region ?_ | refine LWp.block ?_ | refine LWp.exit ?_ | refine LWp.ret ?_ | refine LWp.skip ?_ | refine LOps.valA ?_ | refine LOps.outA ?_ | refine LOps.whenA ?_ | refine LOps.pickA ?_ | refine LOps.storeA ?_)
    refine LWp.cond rfl (fun h2 => ?_) (fun h2 => ?_)
    · have h2 : (!decide (l[j].key = k)) = true := h2
      have hne : l[j].key ≠ k := by simpa using h2
      rw [if_neg hne] at hst2
      repeat (first | refine LOps.nil ?_ | refine andThen_normal ?_ | refine andThen_exit ?_ | refine andThen_ret ?_ | refine inBlock_normal ?_ | refine inBlock_ret ?_ | refine inBlock_here ?_ | refine inBlock_out rfl ?_ | refine LWp.seq ?_ | refine LWp.region ?_ | refine LWp.block ?_ | refine LWp.exit ?_ | refine LWp.ret ?_ | refine LWp.skip ?_ | refine LOps.valA ?_ | refine LOps.outA ?_ | refine LOps.whenA ?_ | refine LOps.pickA ?_ | refine LOps.storeA ?_)
      refine LOps.do (LDo.push hD rfl rfl rfl rfl rfl rfl rfl rfl rfl rfl (show _ = m2.length by simp) hown (by omega)) rfl rfl rfl ?_
      rintro _ S4 ⟨o', rfl, own2, hup, hno'⟩
      repeat (first | refine LOps.nil ?_ | refine andThen_normal ?_ | refine andThen_exit ?_ | refine andThen_ret ?_ | refine inBlock_normal ?_ | refine inBlock_ret ?_ | refine inBlock_here ?_ | refine inBlock_out rfl ?_ | refine LWp.seq ?_ | refine LWp.region ?_ | refine LWp.block ?_ | refine LWp.exit ?_ | refine LWp.ret ?_ | refine LWp.skip ?_ | refine LOps.valA ?_ | refine LOps.outA ?_ | refine LOps.whenA ?_ | refine LOps.pickA ?_ | refine LOps.storeA ?_)
      exact ⟨l.length - (j + 1), by omega, _, j + 1, o', by omega, rfl, hle.upto hup hout, by rw [hst2, List.length_append]; exact own2, hout.next hle hno', holds.over ⟨rfl, rfl, rfl, by rw [hst2, List.map_append]; rfl, by rw [hst2]; rfl, rfl, trivial⟩⟩
    · have h2 : (!decide (l[j].key = k)) = false := h2
      have he : l[j].key = k := by simpa using h2
      rw [if_pos he, List.append_nil] at hst2
      repeat (first | refine LOps.nil ?_ | refine andThen_normal ?_ | refine andThen_exit ?_ | refine andThen_ret ?_ | refine inBlock_normal ?_ | refine inBlock_ret ?_ | refine inBlock_here ?_ | refine inBlock_out rfl ?_ | refine LWp.seq ?_ | refine LWp.region ?_ | refine LWp.block ?_ | refine LWp.exit ?_ | refine LWp.ret ?_ | refine LWp.skip ?_ | refine LOps.valA ?_ | refine LOps.outA ?_ | refine LOps.whenA ?_ | refine LOps.pickA ?_ | refine LOps.storeA ?_)
      exact ⟨l.length - (j + 1), by omega, _, j + 1, o1, by omega, rfl, hle, by rw [hst2]; exact hown, hout, holds.over ⟨rfl, rfl, rfl, by rw [hst2]; rfl, by rw [hst2]; rfl, rfl, trivial⟩⟩
  · have hge : j = l.length := by simp at h; omega
    subst hge
    rw [List.take_length] at hown hlen
    rw [List.take_length]
    have hpd : putD l k v = if (foldP l k v).2 then (foldP l k v).1 else (foldP l k v).1 ++ [⟨k, v⟩] := rfl
    generalize foldP l k v = st at *
    obtain ⟨ms, d⟩ := st
    have hlen : ms.length ≤ 2 * l.length := hlen
    have hown : Owned S1 68 ms.length o := hown
    have hpd : putD l k v = if d then ms else ms ++ [⟨k, v⟩] := hpd
    repeat (first | refine LOps.nil ?_ | refine andThen_normal ?_ | refine andThen_exit ?_ | refine andThen_ret ?_ | refine inBlock_normal ?_ | refine inBlock_ret ?_ | refine inBlock_here ?_ | refine inBlock_out rfl ?_ | refine LWp.seq ?_ | refine LWp.region ?_ | refine LWp.block ?_ | refine LWp.exit ?_ | refine LWp.ret ?_ | refine LWp.skip ?_ | refine LOps.valA ?_ | refine LOps.outA ?_ | refine LOps.whenA ?_ | refine LOps.pickA ?_ | refine LOps.storeA ?_)
    refine LWp.cond rfl (fun h2 => ?_) (fun h2 => ?_)
    · have h2 : (!d) = true := h2
      rw [if_neg (by simpa using h2)] at hpd
      repeat (first | refine LOps.nil ?_ | refine andThen_normal ?_ | refine andThen_exit ?_ | refine andThen_ret ?_ | refine inBlock_normal ?_ | refine inBlock_ret ?_ | refine inBlock_here ?_ | refine inBlock_out rfl ?_ | refine LWp.seq ?_ | refine LWp.region ?_ | refine LWp.block ?_ | refine LWp.exit ?_ | refine LWp.ret ?_ | refine LWp.skip ?_ | refine LOps.valA ?_ | refine LOps.outA ?_ | refine LOps.whenA ?_ | refine LOps.pickA ?_ | refine LOps.storeA ?_)
      refine LOps.do (LDo.push hD rfl rfl rfl rfl rfl rfl rfl rfl rfl rfl (show _ = ms.length by simp) hown (by omega)) rfl rfl rfl ?_
      rintro _ S2 ⟨o', rfl, own2, hup, hno'⟩
      repeat (first | refine LOps.nil ?_ | refine andThen_normal ?_ | refine andThen_exit ?_ | refine andThen_ret ?_ | refine inBlock_normal ?_ | refine inBlock_ret ?_ | refine inBlock_here ?_ | refine inBlock_out rfl ?_ | refine LWp.seq ?_ | refine LWp.region ?_ | refine LWp.block ?_ | refine LWp.exit ?_ | refine LWp.ret ?_ | refine LWp.skip ?_ | refine LOps.valA ?_ | refine LOps.outA ?_ | refine LOps.whenA ?_ | refine LOps.pickA ?_ | refine LOps.storeA ?_)
      exact ⟨_, LRes.one rfl, o', by rw [hpd, List.map_append]; rfl, hle.upto hup hout⟩
    · have h2 : (!d) = false := h2
      rw [if_pos (by simpa using h2)] at hpd
      repeat (first | refine LOps.nil ?_ | refine andThen_normal ?_ | refine andThen_exit ?_ | refine andThen_ret ?_ | refine inBlock_normal ?_ | refine inBlock_ret ?_ | refine inBlock_here ?_ | refine inBlock_out rfl ?_ | refine LWp.seq ?_ | refine LWp.region ?_ | refine LWp.block ?_ | refine LWp.exit ?_ | refine LWp.ret ?_ | refine LWp.skip ?_ | refine LOps.valA ?_ | refine LOps.outA ?_ | refine LOps.whenA ?_ | refine LOps.pickA ?_ | refine LOps.storeA ?_)
      exact ⟨_, LRes.one rfl, o, by rw [hpd]; rfl, hle⟩
theorem putD_F {G : Ctx} (hP : G.P = Try.prog) (l : List Pr) (hl : l.length ≤ 100000) (hz : ∀ p ∈ l, p.key.size ≤ B47) (k v : ByteArray) (hk : k.size ≤ B47) : LFun G 31 [.one (.sl .sh (l.map prL)), .one (sv k), .one (sv v)] (.one (.sl .sh ((putD l k v).map prL))) := LFun.of fun S =>
  (putD_L hP l hl hz k v hk S).shR fun r S' ⟨o, e, h⟩ => ⟨by rw [e]; rfl, h⟩

theorem Owned.upto2 {S S' : LS} {o o2 : Own} {e : TypeId} {n : Nat} (h : Owned S e n o2) (hu : S.upto o S') (hd : ∀ b, o = .own b → o2 ≠ .own b) : Owned S' e n o2 := h.upto hu hd
set_option maxHeartbeats 8000000 in
theorem of_L {G : Ctx} (hP : G.P = Try.prog) (n : NdV) (l : List Pr) (hl : l.length ≤ 100000) (S : LS) : LCalls G 30 [.agg (ndL n), .one (.sl .sh (l.map prL))] (fun r S' => ∃ o1 o2, r = .agg (ndX n (.sl o1 ((l.map Pr.key).map sL)) (.sl o2 ((l.map Pr.val).map sL)) (.sl .sh (n.kids.map hdL))) ∧ S.le S') S := by
  have hD : TabOK G.P D := by rw [hP]; exact hD0
  have ml : (l.map prL).length = l.length := List.length_map ..
  refine LCalls.enter (fn := Try.f30) (by rw [hP]; exact Try.func30) rfl rfl ?_
  repeat (first | refine LOps.nil ?_ | refine andThen_normal ?_ | refine andThen_exit ?_ | refine andThen_ret ?_ | refine inBlock_normal ?_ | refine inBlock_ret ?_ | refine inBlock_here ?_ | refine inBlock_out rfl ?_ | refine LWp.seq ?_ | refine LWp.region ?_ | refine LWp.block ?_ | refine LWp.exit ?_ | refine LWp.ret ?_ | refine LWp.skip ?_ | refine LOps.valA ?_ | refine LOps.outA ?_ | refine LOps.whenA ?_ | refine LOps.pickA ?_ | refine LOps.storeA ?_)
  have hle := LS.le.refl S
  refine LOps.do (LDo.box rfl rfl) rfl rfl rfl ?_
  rintro _ _ ⟨b2, hb2, rfl, rfl⟩
  have s2 := hle.none hb2
  refine LOps.gen (fun S' => S.le S' ∧ S'.box b2 = some (ndL n)) ⟨hle.newBox hb2 _, box_new _ _ _⟩ ?_
  clear hle hb2 
  rintro S2 ⟨hle, k2⟩
  skip
  refine LOps.do (LDo.alloc hD rfl rfl rfl) rfl rfl rfl ?_
  rintro _ _ ⟨b4, hb4, rfl, rfl⟩
  have n2_4 := fresh_ne hb4 k2
  have m4_2 := n2_4.symm
  have s4 := hle.none hb4
  refine LOps.gen (fun S' => S.le S' ∧ S'.box b2 = some (ndL n) ∧ S'.box b4 = some (ndX noNd (.sl .nil []) (.sl .nil []) (.sl .nil []))) ⟨hle.newBox hb4 _, (box_new_ne _ _ n2_4).trans k2, box_new _ _ _⟩ ?_
  clear hle hb4 k2
  rintro S4 ⟨hle, k2, k4⟩
  repeat (first | refine LOps.nil ?_ | refine andThen_normal ?_ | refine andThen_exit ?_ | refine andThen_ret ?_ | refine inBlock_normal ?_ | refine inBlock_ret ?_ | refine inBlock_here ?_ | refine inBlock_out rfl ?_ | refine LWp.seq ?_ | refine LWp.region ?_ | refine LWp.block ?_ | refine LWp.exit ?_ | refine LWp.ret ?_ | refine LWp.skip ?_ | refine LOps.valA ?_ | refine LOps.outA ?_ | refine LOps.whenA ?_ | refine LOps.pickA ?_)
  refine LOps.storeA (b := b2) (off := 1) (cs := ndL n) (l := [.sl .nil []]) ?_
  refine LOps.gen (fun S' => S.le S' ∧ S'.box b2 = some (ndX n (.sl .nil []) (.sl .sh (n.vals.map sL)) (.sl .sh (n.kids.map hdL))) ∧ S'.box b4 = some (ndX noNd (.sl .nil []) (.sl .nil []) (.sl .nil []))) ⟨hle.setBox s2 _, (box_set _ _ _).trans (congrArg some (rfl)), (box_set_ne _ _ m4_2).trans k4⟩ ?_
  clear hle k2 k4
  rintro Ss ⟨hle, k2, k4⟩
  repeat (first | refine LOps.nil ?_ | refine andThen_normal ?_ | refine andThen_exit ?_ | refine andThen_ret ?_ | refine inBlock_normal ?_ | refine inBlock_ret ?_ | refine inBlock_here ?_ | refine inBlock_out rfl ?_ | refine LWp.seq ?_ | refine LWp.region ?_ | refine LWp.block ?_ | refine LWp.exit ?_ | refine LWp.ret ?_ | refine LWp.skip ?_ | refine LOps.valA ?_ | refine LOps.outA ?_ | refine LOps.whenA ?_ | refine LOps.pickA ?_)
  refine LOps.storeA (b := b2) (off := 2) (cs := ndX n (.sl .nil []) (.sl .sh (n.vals.map sL)) (.sl .sh (n.kids.map hdL))) (l := [.sl .nil []]) ?_
  refine LOps.gen (fun S' => S.le S' ∧ S'.box b2 = some (ndX n (.sl .nil []) (.sl .nil []) (.sl .sh (n.kids.map hdL))) ∧ S'.box b4 = some (ndX noNd (.sl .nil []) (.sl .nil []) (.sl .nil []))) ⟨hle.setBox s2 _, (box_set _ _ _).trans (congrArg some (rfl)), (box_set_ne _ _ m4_2).trans k4⟩ ?_
  clear hle k2 k4
  rintro Ss ⟨hle, k2, k4⟩
  repeat (first | refine LOps.nil ?_ | refine andThen_normal ?_ | refine andThen_exit ?_ | refine andThen_ret ?_ | refine inBlock_normal ?_ | refine inBlock_ret ?_ | refine inBlock_here ?_ | refine inBlock_out rfl ?_ | refine LWp.seq ?_ | refine LWp.region ?_ | refine LWp.block ?_ | refine LWp.exit ?_ | refine LWp.ret ?_ | refine LWp.skip ?_ | refine LOps.valA ?_ | refine LOps.outA ?_ | refine LOps.whenA ?_ | refine LOps.pickA ?_ | refine LOps.storeA ?_)
  refine LWp.loop (fun m T S' => ∃ (T' : Nat → TV) (j : Nat) (o1 o2 : Own), j ≤ l.length ∧ m = l.length - j ∧ S.le S' ∧ S'.box b2 = some (ndX n (.sl o1 (((l.take j).map Pr.key).map sL)) (.sl o2 (((l.take j).map Pr.val).map sL)) (.sl .sh (n.kids.map hdL))) ∧ S'.box b4 = some (ndX noNd (.sl .nil []) (.sl .nil []) (.sl .nil [])) ∧ Owned S' 9 j o1 ∧ Owned S' 9 j o2 ∧ (∀ b, o1 = .own b → o2 ≠ .own b) ∧ Out S o1 ∧ Out S o2 ∧ T = over T' [(1, .one (.sl .sh (l.map prL))), (2, ptr b2), (4, ptr b4), (5, .one (iv (j : Nat)))]) l.length ?_ ?_
  · exact ⟨_, 0, .nil, .nil, by omega, by omega, hle, k2, k4, rfl, rfl, (fun b h => by cases h), .nil _, .nil _, holds.over ⟨rfl, rfl, rfl, rfl, trivial⟩⟩
  clear hle k2 k4
  rintro m T S1 ⟨T', j, o1, o2, hj, rfl, hle, k2, k4, own1, own2, hne, out1, out2, rfl⟩
  repeat (first | refine LOps.nil ?_ | refine andThen_normal ?_ | refine andThen_exit ?_ | refine andThen_ret ?_ | refine inBlock_normal ?_ | refine inBlock_ret ?_ | refine inBlock_here ?_ | refine inBlock_out rfl ?_ | refine LWp.seq ?_ | refine LWp.region ?_ | refine LWp.block ?_ | refine LWp.exit ?_ | refine LWp.ret ?_ | refine LWp.skip ?_ | refine LOps.valA ?_ | refine LOps.outA ?_ | refine LOps.whenA ?_ | refine LOps.pickA ?_ | refine LOps.storeA ?_)
  refine LWp.cond rfl (fun h => ?_) (fun h => ?_)
  · have hlt : j < l.length := by simp at h; omega
    have m1 : (((l.take j).map Pr.key).map sL).length = j := by simp; omega
    have m2 : (((l.take j).map Pr.val).map sL).length = j := by simp; omega
    have e1 : ((l.take (j + 1)).map Pr.key).map sL = ((l.take j).map Pr.key).map sL ++ [sL l[j].key] := by rw [List.take_succ_eq_append_getElem hlt, List.map_append, List.map_append]; rfl
    have e2 : ((l.take (j + 1)).map Pr.val).map sL = ((l.take j).map Pr.val).map sL ++ [sL l[j].val] := by rw [List.take_succ_eq_append_getElem hlt, List.map_append, List.map_append]; rfl
    repeat (first | refine LOps.nil ?_ | refine andThen_normal ?_ | refine andThen_exit ?_ | refine andThen_ret ?_ | refine inBlock_normal ?_ | refine inBlock_ret ?_ | refine inBlock_here ?_ | refine inBlock_out rfl ?_ | refine LWp.seq ?_ | refine LWp.region ?_ | refine LWp.block ?_ | refine LWp.exit ?_ | refine LWp.ret ?_ | refine LWp.skip ?_ | refine LOps.valA ?_ | refine LOps.outA ?_ | refine LOps.whenA ?_ | refine LOps.pickA ?_ | refine LOps.storeA ?_)
    refine LWp.drawL [0, 1, 2, 3, 4, 5, 6, 7, 8, 9, 10] (by rw [hP]; rfl) rfl ?_
    repeat (first | refine LRl.valH (LVal.load hD rfl rfl k2 rfl rfl) ?_ (fun _ hS => LVal.load hD rfl rfl (hS.box _ _ k2 (by first | exact id | (intro hx; rcases hx with hx | hx <;> omega) | (intro hx; have hx2 : _ = _ := hx; omega) | (intro hx; exact absurd hx.1 (by decide)))) rfl rfl) | refine LRl.nil ?_ | refine LRl.valA ?_ | refine LRl.outA ?_ | refine LRl.whenA ?_ | refine LRl.pickA ?_)
    refine LRl.act (LDo.push hD rfl rfl rfl rfl rfl rfl rfl rfl rfl rfl m1 own1 (by omega)) rfl rfl rfl rfl (by rintro _ _ ⟨_, _, _, hup, _⟩; exact .inl (.upto hup)) ?_
    rintro _ S2 ⟨o1', rfl, own1', hup, hno1⟩
    repeat (first | refine LRl.nil ?_ | refine LRl.valA ?_ | refine LRl.outA ?_ | refine LRl.whenA ?_ | refine LRl.pickA ?_)
    refine LRl.act0 (LDo.store hD rfl rfl (hup.box _ _ k2) rfl rfl rfl rfl) rfl rfl rfl (fun _ _ _ => .inr rfl) ?_
    rintro _ _ ⟨rfl, rfl⟩
    repeat (first | refine LRl.nil ?_ | refine LRl.valA ?_ | refine LRl.outA ?_ | refine LRl.whenA ?_ | refine LRl.pickA ?_)
    have out1' := out1.next hle hno1
    have own2' : Owned S2 9 j o2 := own2.upto hup hne
    have hne' : ∀ b, o1' = .own b → o2 ≠ .own b := fun b hb e => by
      rcases hno1 b hb with h1 | h1
      · exact hne b h1 e
      · subst e
        have : S1.row b = some (9, j) := own2
        rw [h1.row] at this; cases this
    refine LWp.gen (fun S' => S.le S' ∧ S'.box b2 = some (ndX n (.sl o1' (((l.take (j + 1)).map Pr.key).map sL)) (.sl o2 (((l.take j).map Pr.val).map sL)) (.sl .sh (n.kids.map hdL))) ∧ S'.box b4 = some (ndX noNd (.sl .nil []) (.sl .nil []) (.sl .nil [])) ∧ Owned S' 9 (j + 1) o1' ∧ Owned S' 9 j o2) ⟨(hle.upto hup out1).setBox s2 _, (box_set _ _ _).trans (by rw [e1]; rfl), (box_set_ne _ _ m4_2).trans (hup.box _ _ k4), own1'.setBox, own2'.setBox⟩ ?_
    clear hle k2 k4 own1 own2 hne out1 hup hno1 own1' own2'
    rintro S3 ⟨hle, k2, k4, own1, own2⟩
    refine LWp.drawL [0, 1, 2, 3, 4, 5, 6, 7, 8, 9, 10] (by rw [hP]; rfl) rfl ?_
    repeat (first | refine LRl.valH (LVal.load hD rfl rfl k2 rfl rfl) ?_ (fun _ hS => LVal.load hD rfl rfl (hS.box _ _ k2 (by first | exact id | (intro hx; rcases hx with hx | hx <;> omega) | (intro hx; have hx2 : _ = _ := hx; omega) | (intro hx; exact absurd hx.1 (by decide)))) rfl rfl) | refine LRl.nil ?_ | refine LRl.valA ?_ | refine LRl.outA ?_ | refine LRl.whenA ?_ | refine LRl.pickA ?_)
    refine LRl.act (LDo.push hD rfl rfl rfl rfl rfl rfl rfl rfl rfl rfl m2 own2 (by omega)) rfl rfl rfl rfl (by rintro _ _ ⟨_, _, _, hup, _⟩; exact .inl (.upto hup)) ?_
    rintro _ S4 ⟨o2', rfl, own2', hup, hno2⟩
    repeat (first | refine LRl.nil ?_ | refine LRl.valA ?_ | refine LRl.outA ?_ | refine LRl.whenA ?_ | refine LRl.pickA ?_)
    refine LRl.act0 (LDo.store hD rfl rfl (hup.box _ _ k2) rfl rfl rfl rfl) rfl rfl rfl (fun _ _ _ => .inr rfl) ?_
    rintro _ _ ⟨rfl, rfl⟩
    repeat (first | refine LRl.nil ?_ | refine LRl.valA ?_ | refine LRl.outA ?_ | refine LRl.whenA ?_ | refine LRl.pickA ?_)
    have out2' := out2.next hle hno2
    have own1' : Owned S4 9 (j + 1) o1' := own1.upto hup (fun b hb e => hne' b e hb)
    have hne2 : ∀ b, o1' = .own b → o2' ≠ .own b := fun b hb e => by
      rcases hno2 b e with h1 | h1
      · exact hne' b hb h1
      · subst hb
        have : S3.row b = some (9, j + 1) := own1
        rw [h1.row] at this; cases this
    repeat (first | refine LOps.nil ?_ | refine andThen_normal ?_ | refine andThen_exit ?_ | refine andThen_ret ?_ | refine inBlock_normal ?_ | refine inBlock_ret ?_ | refine inBlock_here ?_ | refine inBlock_out rfl ?_ | refine LWp.seq ?_ | refine LWp.region ?_ | refine LWp.block ?_ | refine LWp.exit ?_ | refine LWp.ret ?_ | refine LWp.skip ?_ | refine LOps.valA ?_ | refine LOps.outA ?_ | refine LOps.whenA ?_ | refine LOps.pickA ?_ | refine LOps.storeA ?_)
    refine ⟨l.length - (j + 1), by omega, _, j + 1, o1', o2', by omega, rfl, (hle.upto hup out2).setBox s2 _, (box_set _ _ _).trans (by rw [e2]; rfl), (box_set_ne _ _ m4_2).trans (hup.box _ _ k4), own1'.setBox, own2'.setBox, hne2, out1', out2', holds.over ⟨rfl, rfl, rfl, rfl, trivial⟩⟩
  · have hge : j = l.length := by simp at h; omega
    subst hge
    rw [List.take_length] at k2
    repeat (first | refine LOps.valH (LVal.load hD rfl rfl k2 rfl rfl) ?_ | refine LOps.nil ?_ | refine andThen_normal ?_ | refine andThen_exit ?_ | refine andThen_ret ?_ | refine inBlock_normal ?_ | refine inBlock_ret ?_ | refine inBlock_here ?_ | refine inBlock_out rfl ?_ | refine LWp.seq ?_ | refine LWp.region ?_ | refine LWp.block ?_ | refine LWp.exit ?_ | refine LWp.ret ?_ | refine LWp.skip ?_ | refine LOps.valA ?_ | refine LOps.outA ?_ | refine LOps.whenA ?_ | refine LOps.pickA ?_)
    refine LOps.storeA (b := b4) (off := 0) (cs := ndX noNd (.sl .nil []) (.sl .nil []) (.sl .nil [])) (l := ndX n (.sl o1 ((l.map Pr.key).map sL)) (.sl o2 ((l.map Pr.val).map sL)) (.sl .sh (n.kids.map hdL))) ?_
    repeat (first | refine LOps.nil ?_ | refine andThen_normal ?_ | refine andThen_exit ?_ | refine andThen_ret ?_ | refine inBlock_normal ?_ | refine inBlock_ret ?_ | refine inBlock_here ?_ | refine inBlock_out rfl ?_ | refine LWp.seq ?_ | refine LWp.region ?_ | refine LWp.block ?_ | refine LWp.exit ?_ | refine LWp.ret ?_ | refine LWp.skip ?_ | refine LOps.valA ?_ | refine LOps.outA ?_ | refine LOps.whenA ?_ | refine LOps.pickA ?_ | refine LOps.storeA ?_)
    exact ⟨_, ndRes (x := n) hP rfl rfl (box_set _ _ _), o1, o2, rfl, hle.setBox s4 _⟩
theorem of_F {G : Ctx} (hP : G.P = Try.prog) (n : NdV) (l : List Pr) (hl : l.length ≤ 100000) : LFun G 30 [.agg (ndL n), .one (.sl .sh (l.map prL))] (.agg (ndL (ofP n l))) := LFun.of fun S =>
  (of_L hP n l hl S).shR fun r S' ⟨o1, o2, e, h⟩ => ⟨by rw [e]; rfl, h⟩
end Go.Proofs.Ytjcpcgneghanfaa.LF
