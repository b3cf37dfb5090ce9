/- Decode. -/
import Derived.Test.YtbifiagpmoakdaaLSd
set_option linter.unusedVariables false
set_option linter.unusedSimpArgs false
namespace Go.Proofs.Ytbifiagpmoakdaa.LF
open Go.RowKit

def decS (bs : List UInt8) : Nat → Nat → List En
  | 0, _ => []
  | n + 1, at_ => if bs.length ≤ at_ then [] else if (enS bs (at_, false)).2.2 then decS bs n (at_ + 1) else (enS bs (at_, false)).1 :: decS bs n (enS bs (at_, false)).2.1
def decodeS (bs : List UInt8) : List En := decS (bs.take 16384) (bs.take 16384).length 0

theorem byteS_bad {bs : List UInt8} {p : Nat} : byteS bs (p, true) = (0, (p, true)) := by simp [byteS]
theorem byteS_ge {bs : List UInt8} (s : Nat × Bool) : s.1 ≤ (byteS bs s).2.1 := by
  unfold byteS; split <;> simp
theorem textS_ge {bs : List UInt8} (s : Nat × Bool) : s.1 ≤ (textS bs s).2.1 := by
  have := byteS_ge (bs := bs) s
  unfold textS; simp only
  split
  · exact this
  · simp only; omega
theorem markS_ge {bs : List UInt8} (s : Nat × Bool) : s.1 ≤ (markS bs s).2.1 := byteS_ge (bs := bs) s
theorem numS_ge {bs : List UInt8} : ∀ (n i x : Nat) (s : Nat × Bool), s.1 ≤ (numS bs n i x s).2.1 := by
  intro n
  induction n with
  | zero => intro i x s; exact Nat.le_refl _
  | succ n ih => intro i x s; exact Nat.le_trans (byteS_ge s) (ih _ _ _)
theorem writesS_ge {bs : List UInt8} : ∀ (n : Nat) (s : Nat × Bool), s.1 ≤ (writesS bs n s).2.1 := by
  intro n
  induction n with
  | zero => intro s; exact Nat.le_refl _
  | succ n ih =>
    intro s
    simp only [writesS]
    refine Nat.le_trans ?_ (ih _)
    split
    · exact Nat.le_trans (textS_ge s) (markS_ge _)
    · exact Nat.le_trans (Nat.le_trans (textS_ge s) (markS_ge _)) (textS_ge _)
theorem opS_ge {bs : List UInt8} (s : Nat × Bool) : s.1 ≤ (opS bs s).2.1 := by
  have h := byteS_ge (bs := bs) s
  simp only [opS]
  split
  · exact Nat.le_trans h (textS_ge _)
  split
  · exact Nat.le_trans h (Nat.le_trans (textS_ge _) (textS_ge _))
  split
  · dsimp only
    split
    · exact Nat.le_trans h (Nat.le_trans (textS_ge _) (Nat.le_trans (textS_ge _) (Nat.le_trans (markS_ge _) (textS_ge _))))
    · exact Nat.le_trans h (Nat.le_trans (textS_ge _) (Nat.le_trans (textS_ge _) (markS_ge _)))
  split
  · exact Nat.le_trans h (Nat.le_trans (textS_ge _) (markS_ge _))
  split
  · exact Nat.le_trans h (Nat.le_trans (byteS_ge _) (writesS_ge _ _))
  · exact h
/-- An entry that is read has its first byte. -/
theorem enS_gt {bs : List UInt8} {p : Nat} (hp : p < bs.length) : p + 1 ≤ (enS bs (p, false)).2.1 := by
  have h : (byteS bs (p, false)).2.1 = p + 1 := by
    unfold byteS; rw [if_neg (by simp; omega)]
  simp only [enS]
  rw [← h]
  split
  · exact opS_ge _
  split
  · exact numS_ge ..
  split
  · exact Nat.le_trans (byteS_ge _) (byteS_ge _)
  split
  · exact byteS_ge _
  split
  · exact numS_ge ..
  · exact Nat.le_refl _
theorem enS_at {bs : List UInt8} {s : Nat × Bool} (h : s.1 ≤ bs.length) : (enS bs s).2.1 ≤ bs.length := by
  have h := byteS_at (bs := bs) h
  simp only [enS]
  split
  · exact opS_at h
  split
  · exact numS_at _ _ _ _ h
  split
  · exact byteS_at (byteS_at h)
  split
  · exact byteS_at h
  split
  · exact numS_at _ _ _ _ h
  · exact h
theorem entry_C {G : Ctx} (hP : G.P = Try.prog) {bs : List UInt8} (hl : bs.length ≤ 1000000000) {p : Nat} {bad : Bool} {b : Nat} {S : LS} (hb : S.box b = some (rdL bs p bad)) (hs : p ≤ bs.length) :
    ∃ x p' bad', enS bs (p, bad) = (x, (p', bad')) ∧ p' ≤ bs.length ∧ LCalls G 18 [ptr b] (fun r S' => S.only (· = b) S' ∧ S'.box b = some (rdL bs p' bad') ∧ r = .agg (enL x)) S :=
  ⟨_, _, _, rfl, enS_at (s := (p, bad)) hs, entry_L hP bs hl p bad b S hb hs⟩

theorem LS.le.onlyNew {S S1 S2 : LS} {b : Nat} (h : S.le S1) (hb : S1.fresh b) {cs : List LV} (k : (S1.newBox b cs).only (· = b) S2) : S.le S2 :=
  LS.only.le ⟨fun c x _ hx => by
      have h1 := h.box c x hx
      have : c ≠ b := fun e => by rw [e, hb.box] at h1; cases h1
      exact k.box c x this ((box_new_ne _ _ this).trans h1),
    fun c x _ hx => by
      have h1 := h.row c x hx
      have : c ≠ b := fun e => by rw [e, hb.row] at h1; cases h1
      exact k.row c x this h1,
    fun c x _ hx => by
      have h1 := h.obj c x hx
      have : c ≠ b := fun e => by rw [e, hb.obj] at h1; cases h1
      exact k.obj c x this h1,
    Nat.le_trans h.top (Nat.le_trans (LS.le.newBox (.refl S1) hb cs).top k.top)⟩

theorem decS_end {bs : List UInt8} {n p : Nat} (h : bs.length ≤ p) : decS bs n p = [] := by
  cases n with
  | zero => rfl
  | succ n => simp only [decS, if_pos h]
theorem decS_bad {bs : List UInt8} {n p p' : Nat} {x : En} (h : p < bs.length) (e : enS bs (p, false) = (x, (p', true))) : decS bs (n + 1) p = decS bs n (p + 1) := by
  simp only [decS, if_neg (Nat.not_le.2 h), e, if_true]
theorem decS_go {bs : List UInt8} {n p p' : Nat} {x : En} (h : p < bs.length) (e : enS bs (p, false) = (x, (p', false))) : decS bs (n + 1) p = x :: decS bs n p' := by
  simp only [decS, if_neg (Nat.not_le.2 h), e, Bool.false_eq_true, if_false]

set_option maxHeartbeats 8000000 in
theorem decode_F {G : Ctx} (hP : G.P = Try.prog) (bs : List UInt8) (hbs : bs.length ≤ 1000000000) : LFun G 11 [.one (.sl .sh (bL bs))] (.one (.sl .sh ((decodeS bs).map enL))) := LFun.of fun S => by
  have hD : TabOK G.P D := by rw [hP]; exact hD0
  have hml : (bL bs).length = bs.length := List.length_map ..
  have hmin : (if (16384 : Int) < ((bL bs).length : Int) then (16384 : Int) else ((bL bs).length : Int)) = ((min 16384 bs.length : Nat) : Int) := by
    rw [hml]; split <;> omega
  refine LCalls.enter (fn := Try.f11) (by rw [hP]; exact Try.func11) rfl rfl ?_
  repeat (first | refine LOps.val (LVal.to (LVal.min rfl rfl rfl) (congrArg (fun x => TV.one (iv x)) hmin)) rfl rfl rfl ?_ | refine LOps.val (LVal.takeMap hD rfl rfl rfl rfl rfl rfl (by omega) rfl (fun _ _ => rfl)) rfl rfl rfl ?_ | refine LOps.nil ?_ | refine andThen_normal ?_ | refine andThen_exit ?_ | refine andThen_ret ?_ | refine inBlock_normal ?_ | refine inBlock_ret ?_ | refine inBlock_here ?_ | refine inBlock_out rfl ?_ | refine LWp.seq ?_ | refine LWp.region ?_ | refine LWp.block ?_ | refine LWp.exit ?_ | refine LWp.ret ?_ | refine LWp.skip ?_ | refine LOps.valA ?_ | refine LOps.outA ?_ | refine LOps.whenA ?_ | refine LOps.pickA ?_ | refine LOps.storeA ?_)
  have e0 : bs.take (min 16384 bs.length) = bs.take 16384 := by
    rcases Nat.le_total 16384 bs.length with h | h
    · rw [Nat.min_eq_left h]
    · rw [Nat.min_eq_right h, List.take_length, List.take_of_length_le h]
  rw [e0]
  unfold decodeS
  have hcl : (bs.take 16384).length ≤ 16384 := by rw [List.length_take]; omega
  generalize bs.take 16384 = cs at hcl
  clear hml hmin e0 hbs
  have hml : (bL cs).length = cs.length := List.length_map ..
  repeat (first | refine LOps.nil ?_ | refine andThen_normal ?_ | refine andThen_exit ?_ | refine andThen_ret ?_ | refine inBlock_normal ?_ | refine inBlock_ret ?_ | refine inBlock_here ?_ | refine inBlock_out rfl ?_ | refine LWp.seq ?_ | refine LWp.region ?_ | refine LWp.block ?_ | refine LWp.exit ?_ | refine LWp.ret ?_ | refine LWp.skip ?_ | refine LOps.valA ?_ | refine LOps.outA ?_ | refine LOps.whenA ?_ | refine LOps.pickA ?_ | refine LOps.storeA ?_)
  refine LWp.loop (fun k T S' => ∃ T' p acc o, S.le S' ∧ p ≤ cs.length ∧ cs.length ≤ p + k ∧ acc.length ≤ p ∧ acc ++ decS cs k p = decS cs cs.length 0 ∧ Owned S' 35 acc.length o ∧ Out S o ∧ T = over T' [(0, .one (.sl .sh (bL cs))), (3, .one (.sl o (acc.map enL))), (4, .one (iv (p : Nat)))]) cs.length ?_ ?_
  · exact ⟨_, 0, [], .nil, .refl _, by omega, by omega, by simp, rfl, rfl, .nil _, holds.over ⟨rfl, rfl, rfl, trivial⟩⟩
  rintro k T S1 ⟨T', p, acc, o, hle, hp, hk, hacc, he, own, hout, rfl⟩
  repeat (first | refine LOps.nil ?_ | refine andThen_normal ?_ | refine andThen_exit ?_ | refine andThen_ret ?_ | refine inBlock_normal ?_ | refine inBlock_ret ?_ | refine inBlock_here ?_ | refine inBlock_out rfl ?_ | refine LWp.seq ?_ | refine LWp.region ?_ | refine LWp.block ?_ | refine LWp.exit ?_ | refine LWp.ret ?_ | refine LWp.skip ?_ | refine LOps.valA ?_ | refine LOps.outA ?_ | refine LOps.whenA ?_ | refine LOps.pickA ?_ | refine LOps.storeA ?_)
  refine LWp.cond rfl (fun h => ?_) (fun h => ?_)
  · have hlt : p < cs.length := by simpa using h
    obtain ⟨k, rfl⟩ : ∃ k', k = k' + 1 := ⟨k - 1, by omega⟩
    repeat (first | refine LOps.nil ?_ | refine andThen_normal ?_ | refine andThen_exit ?_ | refine andThen_ret ?_ | refine inBlock_normal ?_ | refine inBlock_ret ?_ | refine inBlock_here ?_ | refine inBlock_out rfl ?_ | refine LWp.seq ?_ | refine LWp.region ?_ | refine LWp.block ?_ | refine LWp.exit ?_ | refine LWp.ret ?_ | refine LWp.skip ?_ | refine LOps.valA ?_ | refine LOps.outA ?_ | refine LOps.whenA ?_ | refine LOps.pickA ?_ | refine LOps.storeA ?_)
    refine LOps.do (LDo.box rfl rfl) rfl rfl rfl ?_
    rintro _ _ ⟨b5, hb5, rfl, rfl⟩
    obtain ⟨x, p2, d2, e2, hp2, hc⟩ := entry_C hP (bs := cs) (by omega) (p := p) (bad := false) (box_new S1 b5 _) hp
    repeat (first | refine LOps.nil ?_ | refine andThen_normal ?_ | refine andThen_exit ?_ | refine andThen_ret ?_ | refine inBlock_normal ?_ | refine inBlock_ret ?_ | refine inBlock_here ?_ | refine inBlock_out rfl ?_ | refine LWp.seq ?_ | refine LWp.region ?_ | refine LWp.block ?_ | refine LWp.exit ?_ | refine LWp.ret ?_ | refine LWp.skip ?_ | refine LOps.valA ?_ | refine LOps.outA ?_ | refine LOps.whenA ?_ | refine LOps.pickA ?_ | refine LOps.storeA ?_)
    refine LOps.do (LDo.callF hc (by rw [hP]; exact Try.func18)) rfl rfl rfl ?_
    rintro _ S2 ⟨o2, kb, rfl⟩
    have own2 : Owned S2 35 acc.length o := (own.newBox (b := b5)).only o2 (fun b hb e => by subst hb; subst e; have := hb5.row; rw [own] at this; cases this)
    have hle2 := hle.onlyNew hb5 o2
    clear hc o2 own
    repeat (first | refine LOps.nil ?_ | refine andThen_normal ?_ | refine andThen_exit ?_ | refine andThen_ret ?_ | refine inBlock_normal ?_ | refine inBlock_ret ?_ | refine inBlock_here ?_ | refine inBlock_out rfl ?_ | refine LWp.seq ?_ | refine LWp.region ?_ | refine LWp.block ?_ | refine LWp.exit ?_ | refine LWp.ret ?_ | refine LWp.skip ?_ | refine LOps.valA ?_ | refine LOps.outA ?_ | refine LOps.whenA ?_ | refine LOps.pickA ?_ | refine LOps.storeA ?_)
    refine LOps.do (LDo.alloc hD rfl rfl rfl) rfl rfl rfl ?_
    rintro _ _ ⟨b6, hb6, rfl, rfl⟩
    have n56 := fresh_ne hb6 kb
    have s6 := hle2.none hb6
    have own2 := own2.newBox (b := b6) (cs := lzero ti35)
    repeat (first | refine LOps.nil ?_ | refine andThen_normal ?_ | refine andThen_exit ?_ | refine andThen_ret ?_ | refine inBlock_normal ?_ | refine inBlock_ret ?_ | refine inBlock_here ?_ | refine inBlock_out rfl ?_ | refine LWp.seq ?_ | refine LWp.region ?_ | refine LWp.block ?_ | refine LWp.exit ?_ | refine LWp.ret ?_ | refine LWp.skip ?_ | refine LOps.valA ?_ | refine LOps.outA ?_ | refine LOps.whenA ?_ | refine LOps.pickA ?_ | refine LOps.storeA ?_)
    refine LWp.cond rfl (fun h => ?_) (fun h => ?_)
    · have hd : d2 = true := h
      subst hd
      repeat (first | refine LOps.nil ?_ | refine andThen_normal ?_ | refine andThen_exit ?_ | refine andThen_ret ?_ | refine inBlock_normal ?_ | refine inBlock_ret ?_ | refine inBlock_here ?_ | refine inBlock_out rfl ?_ | refine LWp.seq ?_ | refine LWp.region ?_ | refine LWp.block ?_ | refine LWp.exit ?_ | refine LWp.ret ?_ | refine LWp.skip ?_ | refine LOps.valA ?_ | refine LOps.outA ?_ | refine LOps.whenA ?_ | refine LOps.pickA ?_ | refine LOps.storeA ?_)
      exact ⟨k, by omega, _, p + 1, acc, o, (hle2.newBox hb6 _).setBox s6 _, by omega, by omega, by omega, by rw [← he, decS_bad hlt e2], own2.setBox, hout, holds.over ⟨rfl, rfl, rfl, trivial⟩⟩
    · have hd : d2 = false := h
      subst hd
      have hgt := enS_gt hlt
      rw [e2] at hgt
      have hgt : p + 1 ≤ p2 := hgt
      have own2 : Owned ((S2.newBox b6 (lzero ti35)).setBox b6 (enL x)) 35 acc.length o := own2.setBox
      have hle3 := (hle2.newBox hb6 (lzero ti35)).setBox s6 (enL x)
      repeat (first | refine LOps.nil ?_ | refine andThen_normal ?_ | refine andThen_exit ?_ | refine andThen_ret ?_ | refine inBlock_normal ?_ | refine inBlock_ret ?_ | refine inBlock_here ?_ | refine inBlock_out rfl ?_ | refine LWp.seq ?_ | refine LWp.region ?_ | refine LWp.block ?_ | refine LWp.exit ?_ | refine LWp.ret ?_ | refine LWp.skip ?_ | refine LOps.valA ?_ | refine LOps.outA ?_ | refine LOps.whenA ?_ | refine LOps.pickA ?_ | refine LOps.storeA ?_)
      refine LOps.do (LDo.push hD rfl rfl rfl rfl rfl rfl rfl rfl rfl rfl (show _ = acc.length by simp) own2 (by omega)) rfl rfl rfl ?_
      rintro _ S3 ⟨o3, rfl, own3, hup, hno⟩
      have kb := hup.box _ _ ((box_set_ne _ _ n56).trans ((box_new_ne _ _ n56).trans kb))
      repeat (first | refine LOps.nil ?_ | refine andThen_normal ?_ | refine andThen_exit ?_ | refine andThen_ret ?_ | refine inBlock_normal ?_ | refine inBlock_ret ?_ | refine inBlock_here ?_ | refine inBlock_out rfl ?_ | refine LWp.seq ?_ | refine LWp.region ?_ | refine LWp.block ?_ | refine LWp.exit ?_ | refine LWp.ret ?_ | refine LWp.skip ?_ | refine LOps.valA ?_ | refine LOps.outA ?_ | refine LOps.whenA ?_ | refine LOps.pickA ?_ | refine LOps.storeA ?_)
      exact ⟨k, by omega, _, p2, acc ++ [x], o3, hle3.upto hup hout, hp2, by omega, by simp; omega, by rw [← he, decS_go hlt e2]; simp, own3.ofN (by simp), hout.next hle3 hno, holds.over ⟨rfl, congrArg (fun x => TV.one (LV.sl o3 x)) (List.map_append (f := enL) (l₁ := acc) (l₂ := [x])).symm, rfl, trivial⟩⟩
  · have hge : cs.length ≤ p := by simpa using h
    rw [decS_end hge, List.append_nil] at he
    subst he
    repeat (first | refine LOps.nil ?_ | refine andThen_normal ?_ | refine andThen_exit ?_ | refine andThen_ret ?_ | refine inBlock_normal ?_ | refine inBlock_ret ?_ | refine inBlock_here ?_ | refine inBlock_out rfl ?_ | refine LWp.seq ?_ | refine LWp.region ?_ | refine LWp.block ?_ | refine LWp.exit ?_ | refine LWp.ret ?_ | refine LWp.skip ?_ | refine LOps.valA ?_ | refine LOps.outA ?_ | refine LOps.whenA ?_ | refine LOps.pickA ?_ | refine LOps.storeA ?_)
    exact ⟨_, LRes.sh (LRes.one rfl), rfl, hle⟩
end Go.Proofs.Ytbifiagpmoakdaa.LF
