/- The program's bytes of an entry. -/
import Derived.Test.YtbifiagpmoakdaaLSe
import Derived.Test.YtbifiagpmoakdaaLSp
import Derived.Test.YtbifiagpmoakdaaLFz
set_option linter.unusedVariables false
set_option linter.unusedSimpArgs false
namespace Go.Proofs.Ytbifiagpmoakdaa.LF
open Go.RowKit
set_option linter.unusedVariables false

def textW (s : ByteArray) : List UInt8 := UInt8.ofNat (min s.size 255) :: s.data.toList
def byteW (x : Int) (i : Nat) : UInt8 := UInt8.ofNat ((x / 2 ^ (8 * i)) % 256).toNat
def numW (n : Nat) (x : Int) : List UInt8 := (List.range n).map (byteW x)
def wrW (w : Wr) : List UInt8 := textW w.key ++ (markB w.gone ++ if w.gone then [] else textW w.val)
def opW2 (x : OpV) : List UInt8 :=
  if x.kind = 2 then textW x.val else if x.kind = 4 then textW x.val ++ (markB x.had ++ if x.had then textW x.old else [])
  else if x.kind = 5 then markB x.after else if x.kind = 6 then numW 1 (x.writes.length : Nat) ++ (x.writes.take 255).flatMap wrW else []
def opW1 (x : OpV) : List UInt8 := UInt8.ofNat x.kind.toNat :: ((if x.kind = 6 then [] else textW x.key) ++ opW2 x)
def bytesW (x : En) : List UInt8 := UInt8.ofNat x.kind.toNat ::
  (if x.kind = 2 then numW 2 x.a else if x.kind = 3 then numW 1 x.a ++ numW 1 x.b else if x.kind = 4 ∨ x.kind = 5 then numW 1 x.a else if x.kind = 6 then numW 4 x.a else if x.kind = 1 then opW1 x.op else [])

theorem textW_len (s : ByteArray) : (textW s).length = s.size + 1 := by
  unfold textW; rw [List.length_cons, Array.length_toList]; rfl
theorem numW_len (n : Nat) (x : Int) : (numW n x).length = n := by simp [numW]

/-- What stands while bytes are made. -/
structure ByJ (S0 S : LS) (b : Nat) (o : Own) (bs : List UInt8) : Prop where
  le : S0.le S
  kb : S.box b = some [.sl o (bL bs)]
  own : Owned S 5 bs.length o
  out : Out S0 o
  s0 : S0.box b = none

theorem ByJ.app {S0 S S1 : LS} {b : Nat} {o o1 : Own} {bs bs1 : List UInt8} (h : ByJ S0 S b o bs) (own1 : Owned S1 5 bs1.length o1) (hup : S.upto o S1) (hno : ∀ c, o1 = .own c → o = .own c ∨ S.fresh c) :
    ByJ S0 (S1.setBox b [.sl o1 (bL bs1)]) b o1 bs1 ∧ ∀ c x, c ≠ b → S.box c = some x → (S1.setBox b [.sl o1 (bL bs1)]).box c = some x :=
  ⟨⟨(h.le.upto hup h.out).setBox h.s0 _, box_set _ _ _, own1.setBox, h.out.next h.le hno, h.s0⟩, fun c x hc hx => (box_set_ne _ _ hc).trans (hup.box _ _ hx)⟩
theorem ByJ.new {S0 S : LS} {b c : Nat} {o : Own} {bs : List UInt8} (h : ByJ S0 S b o bs) (hc : S.fresh c) (cs : List LV) : ByJ S0 (S.newBox c cs) b o bs :=
  ⟨h.le.newBox hc cs, (box_new_ne _ _ (fresh_ne hc h.kb)).trans h.kb, h.own.newBox, h.out, h.s0⟩
theorem ByJ.put {S0 S : LS} {b c : Nat} {o : Own} {bs : List UInt8} (h : ByJ S0 S b o bs) (hc : b ≠ c) (s0 : S0.box c = none) (cs : List LV) : ByJ S0 (S.setBox c cs) b o bs :=
  ⟨h.le.setBox s0 cs, (box_set_ne _ _ hc).trans h.kb, h.own.setBox, h.out, h.s0⟩

/-- What a step of the making leaves. -/
def ByPost (S0 S : LS) (b : Nat) (bs : List UInt8) (S' : LS) : Prop := ∃ o', ByJ S0 S' b o' bs ∧ ∀ c x, c ≠ b → S.box c = some x → S'.box c = some x

set_option maxHeartbeats 4000000 in
theorem mk_L {G : Ctx} (hP : G.P = Try.prog) {S0 S : LS} {b : Nat} {o : Own} {bs : List UInt8} (hJ : ByJ S0 S b o bs) (hl : bs.length ≤ 80000000) (g : Bool) :
    LCalls G 30 [.one (bv g), ptr b] (fun _ S' => ByPost S0 S b (bs ++ markB g) S') S := by
  have hD : TabOK G.P D := by rw [hP]; exact hD0
  have kb := hJ.kb
  refine LCalls.enter (fn := Try.f30) (by rw [hP]; exact Try.func30) rfl rfl ?_
  repeat (first | refine LOps.nil ?_ | refine andThen_normal ?_ | refine andThen_exit ?_ | refine andThen_ret ?_ | refine inBlock_normal ?_ | refine inBlock_ret ?_ | refine inBlock_here ?_ | refine inBlock_out rfl ?_ | refine LWp.seq ?_ | refine LWp.region ?_ | refine LWp.block ?_ | refine LWp.exit ?_ | refine LWp.ret ?_ | refine LWp.skip ?_ | refine LOps.valA ?_ | refine LOps.outA ?_ | refine LOps.whenA ?_ | refine LOps.pickA ?_ | refine LOps.storeA ?_)
  refine LWp.cond rfl (fun h => ?_) (fun h => ?_)
  · have hg : g = true := h
    subst hg
    repeat (first | refine LOps.nil ?_ | refine andThen_normal ?_ | refine andThen_exit ?_ | refine andThen_ret ?_ | refine inBlock_normal ?_ | refine inBlock_ret ?_ | refine inBlock_here ?_ | refine inBlock_out rfl ?_ | refine LWp.seq ?_ | refine LWp.region ?_ | refine LWp.block ?_ | refine LWp.exit ?_ | refine LWp.ret ?_ | refine LWp.skip ?_ | refine LOps.valA ?_ | refine LOps.outA ?_ | refine LOps.whenA ?_ | refine LOps.pickA ?_ | refine LOps.storeA ?_)
    refine LOps.do (LDo.push hD rfl rfl rfl rfl rfl rfl rfl rfl rfl rfl (show _ = bs.length by simp) hJ.own (by omega)) rfl rfl rfl ?_
    rintro _ S1 ⟨o1, rfl, own1, hup, hno⟩
    have kb1 := hup.box _ _ kb
    repeat (first | refine LOps.nil ?_ | refine andThen_normal ?_ | refine andThen_exit ?_ | refine andThen_ret ?_ | refine inBlock_normal ?_ | refine inBlock_ret ?_ | refine inBlock_here ?_ | refine inBlock_out rfl ?_ | refine LWp.seq ?_ | refine LWp.region ?_ | refine LWp.block ?_ | refine LWp.exit ?_ | refine LWp.ret ?_ | refine LWp.skip ?_ | refine LOps.valA ?_ | refine LOps.outA ?_ | refine LOps.whenA ?_ | refine LOps.pickA ?_ | refine LOps.storeA ?_)
    refine ⟨_, LRes.none rfl, o1, ?_⟩
    have := hJ.app (bs1 := bs ++ markB true) (own1.ofN (by simp [markB])) hup hno
    rw [bL, List.map_append] at this
    exact this
  · have hg : g = false := h
    subst hg
    repeat (first | refine LOps.nil ?_ | refine andThen_normal ?_ | refine andThen_exit ?_ | refine andThen_ret ?_ | refine inBlock_normal ?_ | refine inBlock_ret ?_ | refine inBlock_here ?_ | refine inBlock_out rfl ?_ | refine LWp.seq ?_ | refine LWp.region ?_ | refine LWp.block ?_ | refine LWp.exit ?_ | refine LWp.ret ?_ | refine LWp.skip ?_ | refine LOps.valA ?_ | refine LOps.outA ?_ | refine LOps.whenA ?_ | refine LOps.pickA ?_ | refine LOps.storeA ?_)
    refine LOps.do (LDo.push hD rfl rfl rfl rfl rfl rfl rfl rfl rfl rfl (show _ = bs.length by simp) hJ.own (by omega)) rfl rfl rfl ?_
    rintro _ S1 ⟨o1, rfl, own1, hup, hno⟩
    have kb1 := hup.box _ _ kb
    repeat (first | refine LOps.nil ?_ | refine andThen_normal ?_ | refine andThen_exit ?_ | refine andThen_ret ?_ | refine inBlock_normal ?_ | refine inBlock_ret ?_ | refine inBlock_here ?_ | refine inBlock_out rfl ?_ | refine LWp.seq ?_ | refine LWp.region ?_ | refine LWp.block ?_ | refine LWp.exit ?_ | refine LWp.ret ?_ | refine LWp.skip ?_ | refine LOps.valA ?_ | refine LOps.outA ?_ | refine LOps.whenA ?_ | refine LOps.pickA ?_ | refine LOps.storeA ?_)
    refine ⟨_, LRes.none rfl, o1, ?_⟩
    have := hJ.app (bs1 := bs ++ markB false) (own1.ofN (by simp [markB])) hup hno
    rw [bL, List.map_append] at this
    exact this

set_option maxHeartbeats 4000000 in
theorem tx_L {G : Ctx} (hP : G.P = Try.prog) {S0 S : LS} {b : Nat} {o : Own} {bs : List UInt8} (hJ : ByJ S0 S b o bs) (hl : bs.length ≤ 80000000) (s : ByteArray) (hs : s.size ≤ 1000000) :
    LCalls G 29 [.one (sv s), ptr b] (fun _ S' => ByPost S0 S b (bs ++ textW s) S') S := by
  have hD : TabOK G.P D := by rw [hP]; exact hD0
  have kb := hJ.kb
  have hmin : (if (255 : Int) < (s.size : Int) then (255 : Int) else (s.size : Int)) = ((min s.size 255 : Nat) : Int) := by split <;> omega
  have hw : IntKind.u8.wrap ((min s.size 255 : Nat) : Int) = ((UInt8.ofNat (min s.size 255)).toNat : Int) := by
    rw [IntWalk.u8_in _ ⟨by omega, by omega⟩, UInt8.toNat_ofNat']; omega
  refine LCalls.enter (fn := Try.f29) (by rw [hP]; exact Try.func29) rfl rfl ?_
  repeat (first | refine LOps.val (LVal.to (LVal.min rfl rfl rfl) (congrArg (fun x => TV.one (iv x)) hmin)) rfl rfl rfl ?_ | refine LOps.val (r := .one (uv ((UInt8.ofNat (min s.size 255)).toNat : Int))) (LVal.to (LVal.convInt hD rfl rfl rfl rfl rfl) (congrArg (fun x => TV.one (uv x)) hw)) rfl rfl rfl ?_ | refine LOps.nil ?_ | refine andThen_normal ?_ | refine andThen_exit ?_ | refine andThen_ret ?_ | refine inBlock_normal ?_ | refine inBlock_ret ?_ | refine inBlock_here ?_ | refine inBlock_out rfl ?_ | refine LWp.seq ?_ | refine LWp.region ?_ | refine LWp.block ?_ | refine LWp.exit ?_ | refine LWp.ret ?_ | refine LWp.skip ?_ | refine LOps.valA ?_ | refine LOps.outA ?_ | refine LOps.whenA ?_ | refine LOps.pickA ?_ | refine LOps.storeA ?_)
  refine LOps.do (LDo.push hD rfl rfl rfl rfl rfl rfl rfl rfl rfl rfl (show _ = bs.length by simp) hJ.own (by omega)) rfl rfl rfl ?_
  rintro _ S1 ⟨o1, rfl, own1, hup, hno⟩
  have kb1 := hup.box _ _ kb
  repeat (first | refine LOps.nil ?_ | refine andThen_normal ?_ | refine andThen_exit ?_ | refine andThen_ret ?_ | refine inBlock_normal ?_ | refine inBlock_ret ?_ | refine inBlock_here ?_ | refine inBlock_out rfl ?_ | refine LWp.seq ?_ | refine LWp.region ?_ | refine LWp.block ?_ | refine LWp.exit ?_ | refine LWp.ret ?_ | refine LWp.skip ?_ | refine LOps.valA ?_ | refine LOps.outA ?_ | refine LOps.whenA ?_ | refine LOps.pickA ?_ | refine LOps.storeA ?_)
  refine LOps.do (LDo.appendStr hD rfl rfl rfl rfl rfl rfl rfl rfl rfl rfl rfl (show _ = bs.length + 1 by simp) own1 (by omega)) rfl rfl rfl ?_
  rintro _ S2 ⟨o2, rfl, own2, hup2, hno2⟩
  have kb2 := hup2.box _ _ kb1
  repeat (first | refine LOps.nil ?_ | refine andThen_normal ?_ | refine andThen_exit ?_ | refine andThen_ret ?_ | refine inBlock_normal ?_ | refine inBlock_ret ?_ | refine inBlock_here ?_ | refine inBlock_out rfl ?_ | refine LWp.seq ?_ | refine LWp.region ?_ | refine LWp.block ?_ | refine LWp.exit ?_ | refine LWp.ret ?_ | refine LWp.skip ?_ | refine LOps.valA ?_ | refine LOps.outA ?_ | refine LOps.whenA ?_ | refine LOps.pickA ?_ | refine LOps.storeA ?_)
  refine ⟨_, LRes.none rfl, o2, ?_⟩
  have hJ1 : ByJ S0 (S1.setBox b [.sl o1 (bL (bs ++ [UInt8.ofNat (min s.size 255)]))]) b o1 (bs ++ [UInt8.ofNat (min s.size 255)]) := (hJ.app (own1.ofN (by simp)) hup hno).1
  have hle1 := hJ.le.upto hup hJ.out
  have hout1 := hJ.out.next hJ.le hno
  refine ⟨⟨(hle1.upto hup2 hout1).setBox hJ.s0 _, ?_, (own2.ofN ?_).setBox, hout1.next hle1 hno2, hJ.s0⟩, fun c x hc hx => (box_set_ne _ _ hc).trans (hup2.box _ _ (hup.box _ _ hx))⟩
  · rw [box_set]
    have e : [uv ((UInt8.ofNat (min s.size 255)).toNat : Int)] = byL (UInt8.ofNat (min s.size 255)) := rfl
    rw [e]
    simp only [textW, bL, splice, List.map_append, List.map_cons, List.append_assoc, List.cons_append, List.nil_append, List.take_zero, List.length_cons, List.length_nil, Nat.zero_add, List.drop_succ_cons, List.drop_zero, List.append_nil, List.drop_nil]
  · rw [List.length_append, textW_len]; omega

set_option maxHeartbeats 4000000 in
theorem nm_L {G : Ctx} (hP : G.P = Try.prog) {S0 S : LS} {b : Nat} {o : Own} {bs : List UInt8} (hJ : ByJ S0 S b o bs) (hl : bs.length ≤ 80000000) (x : Int) (n : Nat) (hn : n ≤ 4) :
    LCalls G 28 [.one (iv x), .one (iv (n : Nat)), ptr b] (fun _ S' => ByPost S0 S b (bs ++ numW n x) S') S := by
  have hD : TabOK G.P D := by rw [hP]; exact hD0
  have hm : G.P.follows .mixedOrders = true := by rw [hP]; rfl
  refine LCalls.enter (fn := Try.f28) (by rw [hP]; exact Try.func28) rfl rfl ?_
  repeat (first | refine LOps.nil ?_ | refine andThen_normal ?_ | refine andThen_exit ?_ | refine andThen_ret ?_ | refine inBlock_normal ?_ | refine inBlock_ret ?_ | refine inBlock_here ?_ | refine inBlock_out rfl ?_ | refine LWp.seq ?_ | refine LWp.region ?_ | refine LWp.block ?_ | refine LWp.exit ?_ | refine LWp.ret ?_ | refine LWp.skip ?_ | refine LOps.valA ?_ | refine LOps.outA ?_ | refine LOps.whenA ?_ | refine LOps.pickA ?_ | refine LOps.storeA ?_)
  refine LWp.loop (fun k T S' => ∃ (T' : Nat → TV) (j : Nat), j ≤ n ∧ k = n - j ∧ ByPost S0 S b (bs ++ numW j x) S' ∧ T = over T' [(0, .one (iv x)), (2, ptr b), (6, .one (iv (n : Nat))), (7, .one (iv (j : Nat)))]) n ?_ ?_
  · exact ⟨_, 0, by omega, rfl, ⟨o, by simpa [numW] using hJ, fun _ _ _ h => h⟩, holds.over ⟨rfl, rfl, rfl, rfl, trivial⟩⟩
  rintro k T S1 ⟨T', j, hj, rfl, ⟨o1, hJ1, hk1⟩, rfl⟩
  have kb := hJ1.kb
  repeat (first | refine LOps.nil ?_ | refine andThen_normal ?_ | refine andThen_exit ?_ | refine andThen_ret ?_ | refine inBlock_normal ?_ | refine inBlock_ret ?_ | refine inBlock_here ?_ | refine inBlock_out rfl ?_ | refine LWp.seq ?_ | refine LWp.region ?_ | refine LWp.block ?_ | refine LWp.exit ?_ | refine LWp.ret ?_ | refine LWp.skip ?_ | refine LOps.valA ?_ | refine LOps.outA ?_ | refine LOps.whenA ?_ | refine LOps.pickA ?_ | refine LOps.storeA ?_)
  refine LWp.cond rfl (fun h => ?_) (fun h => ?_)
  · have hlt : j < n := by simp at h; omega
    have hw : IntKind.u8.wrap (x / 2 ^ (8 * (j : Int)).toNat) = ((byteW x j).toNat : Int) := by
      rw [IntKind.wrap_u8]
      unfold byteW
      have e : (8 * (j : Int)).toNat = 8 * j := by omega
      rw [e, UInt8.toNat_ofNat']
      omega
    repeat (first | refine LOps.nil ?_ | refine andThen_normal ?_ | refine andThen_exit ?_ | refine andThen_ret ?_ | refine inBlock_normal ?_ | refine inBlock_ret ?_ | refine inBlock_here ?_ | refine inBlock_out rfl ?_ | refine LWp.seq ?_ | refine LWp.region ?_ | refine LWp.block ?_ | refine LWp.exit ?_ | refine LWp.ret ?_ | refine LWp.skip ?_ | refine LOps.valA ?_ | refine LOps.outA ?_ | refine LOps.whenA ?_ | refine LOps.pickA ?_ | refine LOps.storeA ?_)
    refine LWp.drawL [0, 1, 2, 3, 4, 5, 6, 7, 8] (by rw [hP]; rfl) rfl ?_
    repeat (first | refine LRl.val (fun _ _ => LVal.shrI rfl rfl rfl (by omega)) rfl rfl rfl ?_ | refine LRl.val (r := .one (uv ((byteW x j).toNat : Int))) (fun _ _ => LVal.to (LVal.convInt hD rfl rfl rfl rfl rfl) (congrArg (fun x => TV.one (uv x)) hw)) rfl rfl rfl ?_ | refine LRl.nil ?_ | refine LRl.valA ?_ | refine LRl.outA ?_ | refine LRl.whenA ?_ | refine LRl.pickA ?_)
    refine LRl.act (LDo.push hD rfl rfl rfl rfl rfl rfl rfl rfl rfl rfl (show _ = (bs ++ numW j x).length by simp) hJ1.own (by rw [List.length_append, numW_len]; omega)) rfl rfl rfl rfl (by rintro _ _ ⟨_, _, _, hup, _⟩; exact .inl (.upto hup)) ?_
    rintro _ S2 ⟨o2, rfl, own2, hup, hno⟩
    have kb2 := hup.box _ _ kb
    repeat (first | refine LRl.nil ?_ | refine LRl.valA ?_ | refine LRl.outA ?_ | refine LRl.whenA ?_ | refine LRl.pickA ?_)
    refine LRl.act0 (LDo.store hD rfl rfl kb2 rfl rfl rfl rfl) rfl rfl rfl (fun _ _ _ => .inr rfl) ?_
    rintro _ _ ⟨rfl, rfl⟩
    repeat (first | refine LRl.nil ?_ | refine LRl.valA ?_ | refine LRl.outA ?_ | refine LRl.whenA ?_ | refine LRl.pickA ?_)
    repeat (first | refine LOps.nil ?_ | refine andThen_normal ?_ | refine andThen_exit ?_ | refine andThen_ret ?_ | refine inBlock_normal ?_ | refine inBlock_ret ?_ | refine inBlock_here ?_ | refine inBlock_out rfl ?_ | refine LWp.seq ?_ | refine LWp.region ?_ | refine LWp.block ?_ | refine LWp.exit ?_ | refine LWp.ret ?_ | refine LWp.skip ?_ | refine LOps.valA ?_ | refine LOps.outA ?_ | refine LOps.whenA ?_ | refine LOps.pickA ?_ | refine LOps.storeA ?_)
    have hnx : bs ++ numW (j + 1) x = bs ++ numW j x ++ [byteW x j] := by
      unfold numW; rw [List.range_succ, List.map_append, List.append_assoc]; rfl
    have := hJ1.app (bs1 := bs ++ numW (j + 1) x) (own2.ofN (by rw [hnx]; simp; omega)) hup hno
    refine ⟨n - (j + 1), by omega, _, j + 1, by omega, rfl, ⟨o2, ?_, fun c y hc hy => ?_⟩, holds.over ⟨rfl, rfl, rfl, rfl, trivial⟩⟩
    · have h1 := this.1
      rw [hnx, bL, List.map_append] at h1
      rw [hnx]; exact h1
    · have h1 := this.2 c y hc (hk1 c y hc hy)
      rw [hnx, bL, List.map_append] at h1
      exact h1
  · have hge : j = n := by simp at h; omega
    subst hge
    repeat (first | refine LOps.nil ?_ | refine andThen_normal ?_ | refine andThen_exit ?_ | refine andThen_ret ?_ | refine inBlock_normal ?_ | refine inBlock_ret ?_ | refine inBlock_here ?_ | refine inBlock_out rfl ?_ | refine LWp.seq ?_ | refine LWp.region ?_ | refine LWp.block ?_ | refine LWp.exit ?_ | refine LWp.ret ?_ | refine LWp.skip ?_ | refine LOps.valA ?_ | refine LOps.outA ?_ | refine LOps.whenA ?_ | refine LOps.pickA ?_ | refine LOps.storeA ?_)
    exact ⟨_, LRes.none rfl, o1, hJ1, hk1⟩
end Go.Proofs.Ytbifiagpmoakdaa.LF
