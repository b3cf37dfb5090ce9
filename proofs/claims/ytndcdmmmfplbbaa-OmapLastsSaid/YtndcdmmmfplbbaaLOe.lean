/- What an operation refuses, does and answers: plain; the program's large, refusal, Refused. -/
import Derived.Test.YtndcdmmmfplbbaaLOc
set_option linter.unusedVariables false
set_option linter.unusedSimpArgs false
namespace Go.Proofs.Ytndcdmmmfplbbaa.LF
open Go.RowKit
set_option linter.unusedVariables false

def largeS (k v : ByteArray) : Bool := decide ((k.size : Int) > 24) || decide ((v.size : Int) > 32)
def refusalS (is : Bool) (e : Int) : Int := if is then e else 0
def badW (w : Wr) : Bool := largeS w.key noBytes || (!w.gone && largeS noBytes w.val)
def refusedO (o : OpV) : Int :=
  if o.kind = 1 ∨ o.kind = 3 ∨ o.kind = 5 then refusalS (largeS o.key noBytes) 7
  else if o.kind = 2 then refusalS (largeS o.key o.val) 7
  else if o.kind = 4 then refusalS (largeS o.key o.val || (o.had && largeS noBytes o.old)) 7
  else if o.kind = 6 then (if o.writes.length > 8 then 3 else refusalS (o.writes.any badW) 7)
  else 20
def stepW (l : List Pr) (w : Wr) : List Pr := if w.gone then dropP l w.key else setP l w.key w.val
def doneO (l : List Pr) (o : OpV) : Bool := (hasP l o.key == o.had) && (!hasP l o.key || decide (oldP l o.key = o.old))
def doM (l : List Pr) (o : OpV) : List Pr :=
  if refusedO o = 0 then
    if o.kind = 2 then setP l o.key o.val
    else if o.kind = 3 then dropP l o.key
    else if o.kind = 4 then (if doneO l o then setP l o.key o.val else l)
    else if o.kind = 6 then o.writes.foldl stepW l
    else l
  else l
def pairA : Option Pr → Ans
  | some p => ⟨0, true, p.key, p.val⟩
  | none => noAns
def doA (l : List Pr) (o : OpV) : Ans :=
  if refusedO o = 0 then
    if o.kind = 1 ∨ o.kind = 2 ∨ o.kind = 3 then ⟨0, hasP l o.key, noBytes, oldP l o.key⟩
    else if o.kind = 4 then ⟨0, doneO l o, noBytes, oldP l o.key⟩
    else if o.kind = 5 then pairA (nextP l o.key o.after)
    else noAns
  else ⟨refusedO o, false, noBytes, noBytes⟩
theorem refused_kind {o : OpV} (h : refusedO o = 0) : o.kind = 1 ∨ o.kind = 2 ∨ o.kind = 3 ∨ o.kind = 4 ∨ o.kind = 5 ∨ o.kind = 6 := by
  unfold refusedO at h
  by_cases h1 : o.kind = 1 ∨ o.kind = 3 ∨ o.kind = 5
  · omega
  · rw [if_neg h1] at h
    by_cases h2 : o.kind = 2
    · omega
    · rw [if_neg h2] at h
      by_cases h4 : o.kind = 4
      · omega
      · rw [if_neg h4] at h
        by_cases h6 : o.kind = 6
        · omega
        · rw [if_neg h6] at h; cases h
theorem refused_long {o : OpV} (h : refusedO o = 0) (h6 : o.kind = 6) : o.writes.length ≤ 8 := by
  unfold refusedO at h
  rw [if_neg (by omega), if_neg (by omega), if_neg (by omega), if_pos h6] at h
  by_cases hl : o.writes.length > 8
  · rw [if_pos hl] at h; cases h
  · omega
theorem stepW_srt {l : List Pr} (h : Srt l) (w : Wr) : Srt (stepW l w) := by
  unfold stepW; split
  · exact h.drop _
  · exact h.set _ _
theorem stepsW_srt : ∀ (ws : List Wr) {l : List Pr}, Srt l → Srt (ws.foldl stepW l)
  | [], _, h => h
  | w :: ws, l, h => stepsW_srt ws (stepW_srt h w)
theorem stepW_length (l : List Pr) (w : Wr) : (stepW l w).length ≤ l.length + 1 := by
  unfold stepW; split
  · have := dropP_length l w.key; omega
  · exact setP_length l w.key w.val
theorem stepsW_length : ∀ (ws : List Wr) (l : List Pr), (ws.foldl stepW l).length ≤ l.length + ws.length
  | [], l => by simp
  | w :: ws, l => by
    have h1 := stepsW_length ws (stepW l w)
    have h2 := stepW_length l w
    rw [List.foldl_cons, List.length_cons]; omega
theorem stepsW_take {ws : List Wr} {l : List Pr} {j : Nat} (h : j < ws.length) : (ws.take (j + 1)).foldl stepW l = stepW ((ws.take j).foldl stepW l) ws[j] := by
  rw [List.take_succ_eq_append_getElem h, List.foldl_append]; rfl
theorem doM_srt {l : List Pr} (h : Srt l) (o : OpV) : Srt (doM l o) := by
  unfold doM
  split
  · split
    · exact h.set _ _
    · split
      · exact h.drop _
      · split
        · split
          · exact h.set _ _
          · exact h
        · split
          · exact stepsW_srt _ h
          · exact h
  · exact h
theorem doM_length (l : List Pr) (o : OpV) : (doM l o).length ≤ l.length + 8 := by
  unfold doM
  split
  · rename_i h
    split
    · have := setP_length l o.key o.val; omega
    · split
      · have := dropP_length l o.key; omega
      · split
        · split
          · have := setP_length l o.key o.val; omega
          · omega
        · split
          · rename_i h6
            have := stepsW_length o.writes l
            have := refused_long h h6
            omega
          · omega
  · omega

theorem large_F {G : Ctx} (hP : G.P = Try.prog) (k v : ByteArray) : LFun G 35 [.one (sv k), .one (sv v)] (.one (bv (largeS k v))) := LFun.of fun S => by
  have hD : TabOK G.P D := by rw [hP]; exact hD0
  refine LCalls.enter (fn := Try.f35) (by rw [hP]; exact Try.func35) rfl rfl ?_
  repeat (first | refine LOps.nil ?_ | refine andThen_normal ?_ | refine andThen_exit ?_ | refine andThen_ret ?_ | refine inBlock_normal ?_ | refine inBlock_ret ?_ | refine inBlock_here ?_ | refine inBlock_out rfl ?_ | refine LWp.seq ?_ | refine LWp.region ?_ | refine LWp.block ?_ | refine LWp.exit ?_ | refine LWp.ret ?_ | refine LWp.skip ?_ | refine LOps.valA ?_ | refine LOps.outA ?_ | refine LOps.whenA ?_ | refine LOps.pickA ?_ | refine LOps.storeA ?_)
  exact ⟨_, LRes.one rfl, rfl, .refl _⟩
theorem refusal_F {G : Ctx} (hP : G.P = Try.prog) (is : Bool) (e : Int) : LFun G 34 [.one (bv is), .one (iv e)] (.one (iv (refusalS is e))) := LFun.of fun S => by
  have hD : TabOK G.P D := by rw [hP]; exact hD0
  refine LCalls.enter (fn := Try.f34) (by rw [hP]; exact Try.func34) rfl rfl ?_
  repeat (first | refine LOps.nil ?_ | refine andThen_normal ?_ | refine andThen_exit ?_ | refine andThen_ret ?_ | refine inBlock_normal ?_ | refine inBlock_ret ?_ | refine inBlock_here ?_ | refine inBlock_out rfl ?_ | refine LWp.seq ?_ | refine LWp.region ?_ | refine LWp.block ?_ | refine LWp.exit ?_ | refine LWp.ret ?_ | refine LWp.skip ?_ | refine LOps.valA ?_ | refine LOps.outA ?_ | refine LOps.whenA ?_ | refine LOps.pickA ?_ | refine LOps.storeA ?_)
  refine LWp.cond rfl (fun h => ?_) (fun h => ?_)
  · have h : is = true := h
    subst h
    repeat (first | refine LOps.nil ?_ | refine andThen_normal ?_ | refine andThen_exit ?_ | refine andThen_ret ?_ | refine inBlock_normal ?_ | refine inBlock_ret ?_ | refine inBlock_here ?_ | refine inBlock_out rfl ?_ | refine LWp.seq ?_ | refine LWp.region ?_ | refine LWp.block ?_ | refine LWp.exit ?_ | refine LWp.ret ?_ | refine LWp.skip ?_ | refine LOps.valA ?_ | refine LOps.outA ?_ | refine LOps.whenA ?_ | refine LOps.pickA ?_ | refine LOps.storeA ?_)
    exact ⟨_, LRes.one rfl, rfl, .refl _⟩
  · have h : is = false := h
    subst h
    repeat (first | refine LOps.nil ?_ | refine andThen_normal ?_ | refine andThen_exit ?_ | refine andThen_ret ?_ | refine inBlock_normal ?_ | refine inBlock_ret ?_ | refine inBlock_here ?_ | refine inBlock_out rfl ?_ | refine LWp.seq ?_ | refine LWp.region ?_ | refine LWp.block ?_ | refine LWp.exit ?_ | refine LWp.ret ?_ | refine LWp.skip ?_ | refine LOps.valA ?_ | refine LOps.outA ?_ | refine LOps.whenA ?_ | refine LOps.pickA ?_ | refine LOps.storeA ?_)
    exact ⟨_, LRes.one rfl, rfl, .refl _⟩
set_option maxHeartbeats 1000000 in
theorem bad_F {G : Ctx} (hP : G.P = Try.prog) (w : Wr) : LFun G 37 [.agg (wrL w)] (.one (bv (badW w))) := LFun.of fun S => by
  have hD : TabOK G.P D := by rw [hP]; exact hD0
  refine LCalls.enter (fn := Try.f37) (by rw [hP]; exact Try.func37) rfl rfl ?_
  repeat (first | refine LOps.nil ?_ | refine andThen_normal ?_ | refine andThen_exit ?_ | refine andThen_ret ?_ | refine inBlock_normal ?_ | refine inBlock_ret ?_ | refine inBlock_here ?_ | refine inBlock_out rfl ?_ | refine LWp.seq ?_ | refine LWp.region ?_ | refine LWp.block ?_ | refine LWp.exit ?_ | refine LWp.ret ?_ | refine LWp.skip ?_ | refine LOps.valA ?_ | refine LOps.outA ?_ | refine LOps.whenA ?_ | refine LOps.pickA ?_ | refine LOps.storeA ?_)
  refine LOps.do (LDo.box rfl rfl) rfl rfl rfl ?_
  rintro _ _ ⟨b1, hb1, rfl, rfl⟩
  repeat (first | refine LOps.nil ?_ | refine andThen_normal ?_ | refine andThen_exit ?_ | refine andThen_ret ?_ | refine inBlock_normal ?_ | refine inBlock_ret ?_ | refine inBlock_here ?_ | refine inBlock_out rfl ?_ | refine LWp.seq ?_ | refine LWp.region ?_ | refine LWp.block ?_ | refine LWp.exit ?_ | refine LWp.ret ?_ | refine LWp.skip ?_ | refine LOps.val (LVal.call rfl rfl (by rw [hP]; exact Try.func35) rfl (by decide) (large_F hP w.key noBytes)) rfl rfl rfl ?_ | refine LOps.val (LVal.call rfl rfl (by rw [hP]; exact Try.func35) rfl (by decide) (large_F hP noBytes w.val)) rfl rfl rfl ?_ | refine LOps.whenC (LVal.call rfl rfl (by rw [hP]; exact Try.func35) rfl (by decide) (large_F hP w.key noBytes)) ?_ | refine LOps.whenC (LVal.call rfl rfl (by rw [hP]; exact Try.func35) rfl (by decide) (large_F hP noBytes w.val)) ?_ | refine LOps.valA ?_ | refine LOps.outA ?_ | refine LOps.whenA ?_ | refine LOps.pickA ?_ | refine LOps.storeA ?_)
  exact ⟨_, LRes.one rfl, rfl, .newBox (.refl _) hb1 _⟩

abbrev badFn : LV := .v (.func (.func 37) #[] #[])
def idxW (ws : List Wr) : Int := match ws.findIdx? badW with
  | some i => i
  | none => -1
theorem idxW_ge (ws : List Wr) : decide (idxW ws ≥ 0) = ws.any badW := by
  unfold idxW
  cases h : ws.findIdx? badW with
  | some i =>
    have := List.findIdx?_eq_some_iff_getElem.1 h
    obtain ⟨hi, hp, _⟩ := this
    have e : ws.any badW = true := List.any_eq_true.2 ⟨_, List.getElem_mem hi, hp⟩
    rw [e, decide_eq_true_iff]
    show (i : Int) ≥ 0
    omega
  | none =>
    rw [List.findIdx?_eq_none_iff] at h
    have e : ws.any badW = false := by
      rw [List.any_eq_false]
      intro w hw
      rw [h w hw]; decide
    rw [e]; rfl
set_option maxHeartbeats 2000000 in
theorem indexW_F {G : Ctx} (hP : G.P = Try.prog) (ws : List Wr) (hl : ws.length ≤ 1000000) : LFun G 44 [.one (.sl .sh (ws.map wrL)), .one badFn] (.one (iv (idxW ws))) := LFun.of fun S => by
  have hD : TabOK G.P D := by rw [hP]; exact hD0
  have hml : (ws.map wrL).length = ws.length := List.length_map ..
  refine LCalls.enter (fn := Try.f44) (by rw [hP]; exact Try.func44) rfl rfl ?_
  repeat (first | refine LOps.nil ?_ | refine andThen_normal ?_ | refine andThen_exit ?_ | refine andThen_ret ?_ | refine inBlock_normal ?_ | refine inBlock_ret ?_ | refine inBlock_here ?_ | refine inBlock_out rfl ?_ | refine LWp.seq ?_ | refine LWp.region ?_ | refine LWp.block ?_ | refine LWp.exit ?_ | refine LWp.ret ?_ | refine LWp.skip ?_ | refine LOps.valA ?_ | refine LOps.outA ?_ | refine LOps.whenA ?_ | refine LOps.pickA ?_ | refine LOps.storeA ?_)
  refine LWp.loop (fun k T S' => S' = S ∧ ∃ (T' : Nat → TV) (j : Nat), j ≤ ws.length ∧ k = ws.length - j ∧ (∀ (i : Nat) (hi : i < j) (hl : i < ws.length), badW ws[i] = false) ∧ T = over T' [(0, .one (.sl .sh (ws.map wrL))), (1, .one badFn), (7, .one (iv (ws.length : Nat))), (8, .one (iv (j : Nat)))]) ws.length ?_ ?_
  · exact ⟨rfl, _, 0, by omega, by omega, fun i hi => by omega, holds.over ⟨rfl, rfl, by rw [← hml]; rfl, rfl, trivial⟩⟩
  rintro k T S' ⟨rfl, T', j, hj, rfl, hno, rfl⟩
  repeat (first | refine LOps.nil ?_ | refine andThen_normal ?_ | refine andThen_exit ?_ | refine andThen_ret ?_ | refine inBlock_normal ?_ | refine inBlock_ret ?_ | refine inBlock_here ?_ | refine inBlock_out rfl ?_ | refine LWp.seq ?_ | refine LWp.region ?_ | refine LWp.block ?_ | refine LWp.exit ?_ | refine LWp.ret ?_ | refine LWp.skip ?_ | refine LOps.valA ?_ | refine LOps.outA ?_ | refine LOps.whenA ?_ | refine LOps.pickA ?_ | refine LOps.storeA ?_)
  refine LWp.cond rfl (fun h => ?_) (fun h => ?_)
  · have hlt : j < ws.length := by simp at h; omega
    repeat (first | refine LOps.nil ?_ | refine andThen_normal ?_ | refine andThen_exit ?_ | refine andThen_ret ?_ | refine inBlock_normal ?_ | refine inBlock_ret ?_ | refine inBlock_here ?_ | refine inBlock_out rfl ?_ | refine LWp.seq ?_ | refine LWp.region ?_ | refine LWp.block ?_ | refine LWp.exit ?_ | refine LWp.ret ?_ | refine LWp.skip ?_ | refine LOps.valA ?_ | refine LOps.outA ?_ | refine LOps.whenA ?_ | refine LOps.pickA ?_ | refine LOps.storeA ?_)
    refine LOps.val (LVal.callF2 (f := 37) rfl rfl rfl (by rw [hP]; exact Try.func37) rfl (by decide) (bad_F hP ws[j])) rfl rfl rfl ?_
    refine LOps.nil ?_
    refine andThen_normal ?_
    refine LWp.cond rfl (fun h => ?_) (fun h => ?_)
    · have h : badW ws[j] = true := h
      repeat (first | refine LOps.nil ?_ | refine andThen_normal ?_ | refine andThen_exit ?_ | refine andThen_ret ?_ | refine inBlock_normal ?_ | refine inBlock_ret ?_ | refine inBlock_here ?_ | refine inBlock_out rfl ?_ | refine LWp.seq ?_ | refine LWp.region ?_ | refine LWp.block ?_ | refine LWp.exit ?_ | refine LWp.ret ?_ | refine LWp.skip ?_ | refine LOps.valA ?_ | refine LOps.outA ?_ | refine LOps.whenA ?_ | refine LOps.pickA ?_ | refine LOps.storeA ?_)
      refine ⟨_, LRes.one rfl, ?_, .refl _⟩
      have e : ws.findIdx? badW = some j := List.findIdx?_eq_some_iff_getElem.2 ⟨hlt, h, fun i hi => by rw [hno i hi (by omega)]; decide⟩
      unfold idxW; rw [e]; rfl
    · have h : badW ws[j] = false := h
      repeat (first | refine LOps.nil ?_ | refine andThen_normal ?_ | refine andThen_exit ?_ | refine andThen_ret ?_ | refine inBlock_normal ?_ | refine inBlock_ret ?_ | refine inBlock_here ?_ | refine inBlock_out rfl ?_ | refine LWp.seq ?_ | refine LWp.region ?_ | refine LWp.block ?_ | refine LWp.exit ?_ | refine LWp.ret ?_ | refine LWp.skip ?_ | refine LOps.valA ?_ | refine LOps.outA ?_ | refine LOps.whenA ?_ | refine LOps.pickA ?_ | refine LOps.storeA ?_)
      refine ⟨ws.length - (j + 1), by omega, rfl, _, j + 1, by omega, rfl, fun i hi hl => ?_, holds.over ⟨rfl, rfl, rfl, rfl, trivial⟩⟩
      rcases Nat.lt_or_ge i j with h1 | h1
      · exact hno i h1 hl
      · obtain rfl : i = j := by omega
        exact h
  · have hge : j = ws.length := by simp at h; omega
    subst hge
    repeat (first | refine LOps.nil ?_ | refine andThen_normal ?_ | refine andThen_exit ?_ | refine andThen_ret ?_ | refine inBlock_normal ?_ | refine inBlock_ret ?_ | refine inBlock_here ?_ | refine inBlock_out rfl ?_ | refine LWp.seq ?_ | refine LWp.region ?_ | refine LWp.block ?_ | refine LWp.exit ?_ | refine LWp.ret ?_ | refine LWp.skip ?_ | refine LOps.valA ?_ | refine LOps.outA ?_ | refine LOps.whenA ?_ | refine LOps.pickA ?_ | refine LOps.storeA ?_)
    refine ⟨_, LRes.one rfl, ?_, .refl _⟩
    have e : ws.findIdx? badW = none := by
      rw [List.findIdx?_eq_none_iff]
      intro w hw
      obtain ⟨i, hi, rfl⟩ := List.getElem_of_mem hw
      exact hno i hi hi
    unfold idxW; rw [e]; rfl
theorem containsW_F {G : Ctx} (hP : G.P = Try.prog) (ws : List Wr) (hl : ws.length ≤ 1000000) : LFun G 36 [.one (.sl .sh (ws.map wrL)), .one badFn] (.one (bv (ws.any badW))) := LFun.of fun S => by
  have hD : TabOK G.P D := by rw [hP]; exact hD0
  refine LCalls.enter (fn := Try.f36) (by rw [hP]; exact Try.func36) rfl rfl ?_
  repeat (first | refine LOps.nil ?_ | refine andThen_normal ?_ | refine andThen_exit ?_ | refine andThen_ret ?_ | refine inBlock_normal ?_ | refine inBlock_ret ?_ | refine inBlock_here ?_ | refine inBlock_out rfl ?_ | refine LWp.seq ?_ | refine LWp.region ?_ | refine LWp.block ?_ | refine LWp.exit ?_ | refine LWp.ret ?_ | refine LWp.skip ?_ | refine LOps.val (LVal.call rfl rfl (by rw [hP]; exact Try.func44) rfl (by decide) (indexW_F hP ws hl)) rfl rfl rfl ?_ | refine LOps.whenC (LVal.call rfl rfl (by rw [hP]; exact Try.func44) rfl (by decide) (indexW_F hP ws hl)) ?_ | refine LOps.valA ?_ | refine LOps.outA ?_ | refine LOps.whenA ?_ | refine LOps.pickA ?_ | refine LOps.storeA ?_)
  exact ⟨_, LRes.one rfl, by rw [← idxW_ge]; rfl, .refl _⟩

set_option maxHeartbeats 4000000 in
theorem refused_F {G : Ctx} (hP : G.P = Try.prog) (o : OpV) : LFun G 18 [.agg (opL o)] (.one (iv (refusedO o))) := LFun.of fun S => by
  have hD : TabOK G.P D := by rw [hP]; exact hD0
  have c1 := large_F hP o.key noBytes
  have c2 := large_F hP o.key o.val
  have c3 := large_F hP noBytes o.old
  have hml : (o.writes.map wrL).length = o.writes.length := List.length_map ..
  refine LCalls.enter (fn := Try.f18) (by rw [hP]; exact Try.func18) rfl rfl ?_
  repeat (first | refine LOps.nil ?_ | refine andThen_normal ?_ | refine andThen_exit ?_ | refine andThen_ret ?_ | refine inBlock_normal ?_ | refine inBlock_ret ?_ | refine inBlock_here ?_ | refine inBlock_out rfl ?_ | refine LWp.seq ?_ | refine LWp.region ?_ | refine LWp.block ?_ | refine LWp.exit ?_ | refine LWp.ret ?_ | refine LWp.skip ?_ | refine LOps.valA ?_ | refine LOps.outA ?_ | refine LOps.whenA ?_ | refine LOps.pickA ?_ | refine LOps.storeA ?_)
  refine LOps.do (LDo.box rfl rfl) rfl rfl rfl ?_
  rintro _ _ ⟨b1, hb1, rfl, rfl⟩
  have hle := LS.le.newBox (.refl S) hb1 (opL o)
  by_cases h1 : o.kind = 1
  · repeat (first | refine LOps.valH (LVal.call rfl rfl (by rw [hP]; exact Try.func35) rfl (by decide) (c1)) ?_ | refine LOps.valH (LVal.call rfl rfl (by rw [hP]; exact Try.func34) rfl (by decide) (refusal_F hP _ _)) ?_ | refine LWp.condT rfl ?_ | refine LOps.valH (LVal.to (LVal.binOp hD rfl rfl rfl rfl) (r' := .one (.v (.bool true))) (congrArg (fun b => TV.one (.v (.bool b))) (by first | exact decide_eq_true (by omega) | (rw [beq_iff_eq]; omega) | (rw [bne_iff_ne]; omega)))) ?_ | refine LOps.valH (LVal.to (LVal.binOp hD rfl rfl rfl rfl) (r' := .one (.v (.bool false))) (congrArg (fun b => TV.one (.v (.bool b))) (by first | exact decide_eq_false (by omega) | (rw [beq_eq_false_iff_ne]; omega) | (rw [bne_eq_false_iff_eq]; omega)))) ?_ | refine LOps.valW ?_ | refine LOps.nil ?_ | refine andThen_normal ?_ | refine andThen_exit ?_ | refine andThen_ret ?_ | refine inBlock_normal ?_ | refine inBlock_ret ?_ | refine inBlock_here ?_ | refine inBlock_out rfl ?_ | refine LWp.seq ?_ | refine LWp.region ?_ | refine LWp.block ?_ | refine LWp.exit ?_ | refine LWp.ret ?_ | refine LWp.skip ?_ | refine LOps.val (LVal.call rfl rfl (by rw [hP]; exact Try.func35) rfl (by decide) (c1)) rfl rfl rfl ?_ | refine LOps.val (LVal.call rfl rfl (by rw [hP]; exact Try.func34) rfl (by decide) (refusal_F hP _ _)) rfl rfl rfl ?_ | refine LOps.whenC (LVal.call rfl rfl (by rw [hP]; exact Try.func35) rfl (by decide) (c1)) ?_ | refine LOps.whenC (LVal.call rfl rfl (by rw [hP]; exact Try.func34) rfl (by decide) (refusal_F hP _ _)) ?_ | refine LOps.valA ?_ | refine LOps.outA ?_ | refine LOps.whenA ?_ | refine LOps.pickA ?_ | refine LOps.storeA ?_)
    exact ⟨_, LRes.one rfl, by rw [refusedO, if_pos (by omega)]; rfl, hle⟩
  by_cases h3 : o.kind = 3
  · repeat (first | refine LOps.valH (LVal.call rfl rfl (by rw [hP]; exact Try.func35) rfl (by decide) (c1)) ?_ | refine LOps.valH (LVal.call rfl rfl (by rw [hP]; exact Try.func34) rfl (by decide) (refusal_F hP _ _)) ?_ | refine LWp.condT rfl ?_ | refine LWp.condF rfl ?_ | refine LOps.valH (LVal.to (LVal.binOp hD rfl rfl rfl rfl) (r' := .one (.v (.bool true))) (congrArg (fun b => TV.one (.v (.bool b))) (by first | exact decide_eq_true (by omega) | (rw [beq_iff_eq]; omega) | (rw [bne_iff_ne]; omega)))) ?_ | refine LOps.valH (LVal.to (LVal.binOp hD rfl rfl rfl rfl) (r' := .one (.v (.bool false))) (congrArg (fun b => TV.one (.v (.bool b))) (by first | exact decide_eq_false (by omega) | (rw [beq_eq_false_iff_ne]; omega) | (rw [bne_eq_false_iff_eq]; omega)))) ?_ | refine LOps.valW ?_ | refine LOps.nil ?_ | refine andThen_normal ?_ | refine andThen_exit ?_ | refine andThen_ret ?_ | refine inBlock_normal ?_ | refine inBlock_ret ?_ | refine inBlock_here ?_ | refine inBlock_out rfl ?_ | refine LWp.seq ?_ | refine LWp.region ?_ | refine LWp.block ?_ | refine LWp.exit ?_ | refine LWp.ret ?_ | refine LWp.skip ?_ | refine LOps.val (LVal.call rfl rfl (by rw [hP]; exact Try.func35) rfl (by decide) (c1)) rfl rfl rfl ?_ | refine LOps.val (LVal.call rfl rfl (by rw [hP]; exact Try.func34) rfl (by decide) (refusal_F hP _ _)) rfl rfl rfl ?_ | refine LOps.whenC (LVal.call rfl rfl (by rw [hP]; exact Try.func35) rfl (by decide) (c1)) ?_ | refine LOps.whenC (LVal.call rfl rfl (by rw [hP]; exact Try.func34) rfl (by decide) (refusal_F hP _ _)) ?_ | refine LOps.valA ?_ | refine LOps.outA ?_ | refine LOps.whenA ?_ | refine LOps.pickA ?_ | refine LOps.storeA ?_)
    exact ⟨_, LRes.one rfl, by rw [refusedO, if_pos (by omega)]; rfl, hle⟩
  by_cases h5 : o.kind = 5
  · repeat (first | refine LOps.valH (LVal.call rfl rfl (by rw [hP]; exact Try.func35) rfl (by decide) (c1)) ?_ | refine LOps.valH (LVal.call rfl rfl (by rw [hP]; exact Try.func34) rfl (by decide) (refusal_F hP _ _)) ?_ | refine LWp.condT rfl ?_ | refine LWp.condF rfl ?_ | refine LOps.valH (LVal.to (LVal.binOp hD rfl rfl rfl rfl) (r' := .one (.v (.bool true))) (congrArg (fun b => TV.one (.v (.bool b))) (by first | exact decide_eq_true (by omega) | (rw [beq_iff_eq]; omega) | (rw [bne_iff_ne]; omega)))) ?_ | refine LOps.valH (LVal.to (LVal.binOp hD rfl rfl rfl rfl) (r' := .one (.v (.bool false))) (congrArg (fun b => TV.one (.v (.bool b))) (by first | exact decide_eq_false (by omega) | (rw [beq_eq_false_iff_ne]; omega) | (rw [bne_eq_false_iff_eq]; omega)))) ?_ | refine LOps.valW ?_ | refine LOps.nil ?_ | refine andThen_normal ?_ | refine andThen_exit ?_ | refine andThen_ret ?_ | refine inBlock_normal ?_ | refine inBlock_ret ?_ | refine inBlock_here ?_ | refine inBlock_out rfl ?_ | refine LWp.seq ?_ | refine LWp.region ?_ | refine LWp.block ?_ | refine LWp.exit ?_ | refine LWp.ret ?_ | refine LWp.skip ?_ | refine LOps.val (LVal.call rfl rfl (by rw [hP]; exact Try.func35) rfl (by decide) (c1)) rfl rfl rfl ?_ | refine LOps.val (LVal.call rfl rfl (by rw [hP]; exact Try.func34) rfl (by decide) (refusal_F hP _ _)) rfl rfl rfl ?_ | refine LOps.whenC (LVal.call rfl rfl (by rw [hP]; exact Try.func35) rfl (by decide) (c1)) ?_ | refine LOps.whenC (LVal.call rfl rfl (by rw [hP]; exact Try.func34) rfl (by decide) (refusal_F hP _ _)) ?_ | refine LOps.valA ?_ | refine LOps.outA ?_ | refine LOps.whenA ?_ | refine LOps.pickA ?_ | refine LOps.storeA ?_)
    exact ⟨_, LRes.one rfl, by rw [refusedO, if_pos (by omega)]; rfl, hle⟩
  by_cases h2 : o.kind = 2
  · repeat (first | refine LOps.valH (LVal.call rfl rfl (by rw [hP]; exact Try.func35) rfl (by decide) (c2)) ?_ | refine LOps.valH (LVal.call rfl rfl (by rw [hP]; exact Try.func34) rfl (by decide) (refusal_F hP _ _)) ?_ | refine LWp.condT rfl ?_ | refine LWp.condF rfl ?_ | refine LOps.valH (LVal.to (LVal.binOp hD rfl rfl rfl rfl) (r' := .one (.v (.bool true))) (congrArg (fun b => TV.one (.v (.bool b))) (by first | exact decide_eq_true (by omega) | (rw [beq_iff_eq]; omega) | (rw [bne_iff_ne]; omega)))) ?_ | refine LOps.valH (LVal.to (LVal.binOp hD rfl rfl rfl rfl) (r' := .one (.v (.bool false))) (congrArg (fun b => TV.one (.v (.bool b))) (by first | exact decide_eq_false (by omega) | (rw [beq_eq_false_iff_ne]; omega) | (rw [bne_eq_false_iff_eq]; omega)))) ?_ | refine LOps.valW ?_ | refine LOps.nil ?_ | refine andThen_normal ?_ | refine andThen_exit ?_ | refine andThen_ret ?_ | refine inBlock_normal ?_ | refine inBlock_ret ?_ | refine inBlock_here ?_ | refine inBlock_out rfl ?_ | refine LWp.seq ?_ | refine LWp.region ?_ | refine LWp.block ?_ | refine LWp.exit ?_ | refine LWp.ret ?_ | refine LWp.skip ?_ | refine LOps.val (LVal.call rfl rfl (by rw [hP]; exact Try.func35) rfl (by decide) (c2)) rfl rfl rfl ?_ | refine LOps.val (LVal.call rfl rfl (by rw [hP]; exact Try.func34) rfl (by decide) (refusal_F hP _ _)) rfl rfl rfl ?_ | refine LOps.whenC (LVal.call rfl rfl (by rw [hP]; exact Try.func35) rfl (by decide) (c2)) ?_ | refine LOps.whenC (LVal.call rfl rfl (by rw [hP]; exact Try.func34) rfl (by decide) (refusal_F hP _ _)) ?_ | refine LOps.valA ?_ | refine LOps.outA ?_ | refine LOps.whenA ?_ | refine LOps.pickA ?_ | refine LOps.storeA ?_)
    exact ⟨_, LRes.one rfl, by rw [refusedO, if_neg (by omega), if_pos h2]; rfl, hle⟩
  by_cases h4 : o.kind = 4
  · repeat (first | refine LOps.valH (LVal.call rfl rfl (by rw [hP]; exact Try.func35) rfl (by decide) (c2)) ?_ | refine LOps.valH (LVal.call rfl rfl (by rw [hP]; exact Try.func35) rfl (by decide) (c3)) ?_ | refine LOps.valH (LVal.call rfl rfl (by rw [hP]; exact Try.func34) rfl (by decide) (refusal_F hP _ _)) ?_ | refine LWp.condT rfl ?_ | refine LWp.condF rfl ?_ | refine LOps.valH (LVal.to (LVal.binOp hD rfl rfl rfl rfl) (r' := .one (.v (.bool true))) (congrArg (fun b => TV.one (.v (.bool b))) (by first | exact decide_eq_true (by omega) | (rw [beq_iff_eq]; omega) | (rw [bne_iff_ne]; omega)))) ?_ | refine LOps.valH (LVal.to (LVal.binOp hD rfl rfl rfl rfl) (r' := .one (.v (.bool false))) (congrArg (fun b => TV.one (.v (.bool b))) (by first | exact decide_eq_false (by omega) | (rw [beq_eq_false_iff_ne]; omega) | (rw [bne_eq_false_iff_eq]; omega)))) ?_ | refine LOps.valW ?_ | refine LOps.nil ?_ | refine andThen_normal ?_ | refine andThen_exit ?_ | refine andThen_ret ?_ | refine inBlock_normal ?_ | refine inBlock_ret ?_ | refine inBlock_here ?_ | refine inBlock_out rfl ?_ | refine LWp.seq ?_ | refine LWp.region ?_ | refine LWp.block ?_ | refine LWp.exit ?_ | refine LWp.ret ?_ | refine LWp.skip ?_ | refine LOps.val (LVal.call rfl rfl (by rw [hP]; exact Try.func35) rfl (by decide) (c2)) rfl rfl rfl ?_ | refine LOps.val (LVal.call rfl rfl (by rw [hP]; exact Try.func35) rfl (by decide) (c3)) rfl rfl rfl ?_ | refine LOps.val (LVal.call rfl rfl (by rw [hP]; exact Try.func34) rfl (by decide) (refusal_F hP _ _)) rfl rfl rfl ?_ | refine LOps.whenC (LVal.call rfl rfl (by rw [hP]; exact Try.func35) rfl (by decide) (c2)) ?_ | refine LOps.whenC (LVal.call rfl rfl (by rw [hP]; exact Try.func35) rfl (by decide) (c3)) ?_ | refine LOps.whenC (LVal.call rfl rfl (by rw [hP]; exact Try.func34) rfl (by decide) (refusal_F hP _ _)) ?_ | refine LOps.valA ?_ | refine LOps.outA ?_ | refine LOps.whenA ?_ | refine LOps.pickA ?_ | refine LOps.storeA ?_)
    exact ⟨_, LRes.one rfl, by rw [refusedO, if_neg (by omega), if_neg (by omega), if_pos h4]; rfl, hle⟩
  by_cases h6 : o.kind = 6
  · by_cases hl : o.writes.length > 8
    · have hl' : ((o.writes.map wrL).length : Int) > 8 := by omega
      repeat (first | refine LWp.condT rfl ?_ | refine LWp.condF rfl ?_ | refine LOps.valH (LVal.to (LVal.binOp hD rfl rfl rfl rfl) (r' := .one (.v (.bool true))) (congrArg (fun b => TV.one (.v (.bool b))) (by first | exact decide_eq_true (by omega) | (rw [beq_iff_eq]; omega) | (rw [bne_iff_ne]; omega)))) ?_ | refine LOps.valH (LVal.to (LVal.binOp hD rfl rfl rfl rfl) (r' := .one (.v (.bool false))) (congrArg (fun b => TV.one (.v (.bool b))) (by first | exact decide_eq_false (by omega) | (rw [beq_eq_false_iff_ne]; omega) | (rw [bne_eq_false_iff_eq]; omega)))) ?_ | refine LOps.valW ?_ | refine LOps.nil ?_ | refine andThen_normal ?_ | refine andThen_exit ?_ | refine andThen_ret ?_ | refine inBlock_normal ?_ | refine inBlock_ret ?_ | refine inBlock_here ?_ | refine inBlock_out rfl ?_ | refine LWp.seq ?_ | refine LWp.region ?_ | refine LWp.block ?_ | refine LWp.exit ?_ | refine LWp.ret ?_ | refine LWp.skip ?_ | refine LOps.valA ?_ | refine LOps.outA ?_ | refine LOps.whenA ?_ | refine LOps.pickA ?_ | refine LOps.storeA ?_)
      exact ⟨_, LRes.one rfl, by rw [refusedO, if_neg (by omega), if_neg (by omega), if_neg (by omega), if_pos h6, if_pos hl]; rfl, hle⟩
    · have hl' : ¬ ((o.writes.map wrL).length : Int) > 8 := by omega
      repeat (first | refine LOps.valH (LVal.call rfl rfl (by rw [hP]; exact Try.func36) rfl (by decide) (containsW_F hP o.writes (by omega))) ?_ | refine LOps.valH (LVal.call rfl rfl (by rw [hP]; exact Try.func34) rfl (by decide) (refusal_F hP _ _)) ?_ | refine LWp.condT rfl ?_ | refine LWp.condF rfl ?_ | refine LOps.valH (LVal.to (LVal.binOp hD rfl rfl rfl rfl) (r' := .one (.v (.bool true))) (congrArg (fun b => TV.one (.v (.bool b))) (by first | exact decide_eq_true (by omega) | (rw [beq_iff_eq]; omega) | (rw [bne_iff_ne]; omega)))) ?_ | refine LOps.valH (LVal.to (LVal.binOp hD rfl rfl rfl rfl) (r' := .one (.v (.bool false))) (congrArg (fun b => TV.one (.v (.bool b))) (by first | exact decide_eq_false (by omega) | (rw [beq_eq_false_iff_ne]; omega) | (rw [bne_eq_false_iff_eq]; omega)))) ?_ | refine LOps.valW ?_ | refine LOps.nil ?_ | refine andThen_normal ?_ | refine andThen_exit ?_ | refine andThen_ret ?_ | refine inBlock_normal ?_ | refine inBlock_ret ?_ | refine inBlock_here ?_ | refine inBlock_out rfl ?_ | refine LWp.seq ?_ | refine LWp.region ?_ | refine LWp.block ?_ | refine LWp.exit ?_ | refine LWp.ret ?_ | refine LWp.skip ?_ | refine LOps.val (LVal.call rfl rfl (by rw [hP]; exact Try.func36) rfl (by decide) (containsW_F hP o.writes (by omega))) rfl rfl rfl ?_ | refine LOps.val (LVal.call rfl rfl (by rw [hP]; exact Try.func34) rfl (by decide) (refusal_F hP _ _)) rfl rfl rfl ?_ | refine LOps.whenC (LVal.call rfl rfl (by rw [hP]; exact Try.func36) rfl (by decide) (containsW_F hP o.writes (by omega))) ?_ | refine LOps.whenC (LVal.call rfl rfl (by rw [hP]; exact Try.func34) rfl (by decide) (refusal_F hP _ _)) ?_ | refine LOps.valA ?_ | refine LOps.outA ?_ | refine LOps.whenA ?_ | refine LOps.pickA ?_ | refine LOps.storeA ?_)
      exact ⟨_, LRes.one rfl, by rw [refusedO, if_neg (by omega), if_neg (by omega), if_neg (by omega), if_pos h6, if_neg hl]; rfl, hle⟩
  · repeat (first | refine LWp.condT rfl ?_ | refine LWp.condF rfl ?_ | refine LOps.valH (LVal.to (LVal.binOp hD rfl rfl rfl rfl) (r' := .one (.v (.bool true))) (congrArg (fun b => TV.one (.v (.bool b))) (by first | exact decide_eq_true (by omega) | (rw [beq_iff_eq]; omega) | (rw [bne_iff_ne]; omega)))) ?_ | refine LOps.valH (LVal.to (LVal.binOp hD rfl rfl rfl rfl) (r' := .one (.v (.bool false))) (congrArg (fun b => TV.one (.v (.bool b))) (by first | exact decide_eq_false (by omega) | (rw [beq_eq_false_iff_ne]; omega) | (rw [bne_eq_false_iff_eq]; omega)))) ?_ | refine LOps.valW ?_ | refine LOps.nil ?_ | refine andThen_normal ?_ | refine andThen_exit ?_ | refine andThen_ret ?_ | refine inBlock_normal ?_ | refine inBlock_ret ?_ | refine inBlock_here ?_ | refine inBlock_out rfl ?_ | refine LWp.seq ?_ | refine LWp.region ?_ | refine LWp.block ?_ | refine LWp.exit ?_ | refine LWp.ret ?_ | refine LWp.skip ?_ | refine LOps.valA ?_ | refine LOps.outA ?_ | refine LOps.whenA ?_ | refine LOps.pickA ?_ | refine LOps.storeA ?_)
    exact ⟨_, LRes.one rfl, by rw [refusedO, if_neg (by omega), if_neg (by omega), if_neg (by omega), if_neg (by omega)]; rfl, hle⟩
end Go.Proofs.Ytndcdmmmfplbbaa.LF
