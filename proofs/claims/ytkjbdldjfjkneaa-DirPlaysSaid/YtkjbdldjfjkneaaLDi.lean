/- The directory's All: its contract. -/
import Derived.Test.YtkjbdldjfjkneaaLDai
import Derived.Test.YtkjbdldjfjkneaaLFze
set_option linter.unusedVariables false
set_option linter.unusedSimpArgs false
namespace Go.Proofs.Ytkjbdldjfjkneaa.LF
open Go.RowKit
set_option linter.unusedVariables false

/-- The cell that holds a directory's pointer. -/
def dC : Option (Dv Int) → LV
  | none => .v (.pointer none)
  | some d => .p (dLI d)
theorem allI_L {G : Ctx} (hP : G.P = Try.prog) (d : Option (Dv Int)) (S : LS) :
    LCalls G 33 [dTI d] (fun r S' => ∃ b, S.fresh b ∧ r = .one (.v (.func (.func 49) #[] #[.pointer (some ⟨b, 0, none⟩)])) ∧ S' = S.newBox b [dC d]) S := by
  have hD : TabOK G.P D := by rw [hP]; exact hD0
  refine LCalls.enter (fn := Try.f33) (by rw [hP]; exact Try.func33) rfl rfl ?_
  cases d with
  | none =>
    repeat (first | refine LOps.nil ?_ | refine andThen_normal ?_ | refine andThen_exit ?_ | refine andThen_ret ?_ | refine inBlock_normal ?_ | refine inBlock_ret ?_ | refine inBlock_here ?_ | refine inBlock_out rfl ?_ | refine LWp.seq ?_ | refine LWp.region ?_ | refine LWp.block ?_ | refine LWp.exit ?_ | refine LWp.ret ?_ | refine LWp.skip ?_ | refine LOps.valA ?_ | refine LOps.outA ?_ | refine LOps.whenA ?_ | refine LOps.pickA ?_ | refine LOps.storeA ?_)
    refine LOps.do (LDo.box rfl rfl) rfl rfl rfl ?_
    rintro _ _ ⟨b, hb, rfl, rfl⟩
    repeat (first | refine LOps.val (LVal.makeFunc rfl (vs := [.pointer (some ⟨b, 0, none⟩)]) rfl) rfl rfl rfl ?_ | refine LOps.nil ?_ | refine andThen_normal ?_ | refine andThen_exit ?_ | refine andThen_ret ?_ | refine inBlock_normal ?_ | refine inBlock_ret ?_ | refine inBlock_here ?_ | refine inBlock_out rfl ?_ | refine LWp.seq ?_ | refine LWp.region ?_ | refine LWp.block ?_ | refine LWp.exit ?_ | refine LWp.ret ?_ | refine LWp.skip ?_ | refine LOps.valA ?_ | refine LOps.outA ?_ | refine LOps.whenA ?_ | refine LOps.pickA ?_ | refine LOps.storeA ?_)
    exact ⟨_, LRes.one rfl, b, hb, rfl, rfl⟩
  | some d =>
    repeat (first | refine LOps.nil ?_ | refine andThen_normal ?_ | refine andThen_exit ?_ | refine andThen_ret ?_ | refine inBlock_normal ?_ | refine inBlock_ret ?_ | refine inBlock_here ?_ | refine inBlock_out rfl ?_ | refine LWp.seq ?_ | refine LWp.region ?_ | refine LWp.block ?_ | refine LWp.exit ?_ | refine LWp.ret ?_ | refine LWp.skip ?_ | refine LOps.valA ?_ | refine LOps.outA ?_ | refine LOps.whenA ?_ | refine LOps.pickA ?_ | refine LOps.storeA ?_)
    refine LOps.do (LDo.box rfl rfl) rfl rfl rfl ?_
    rintro _ _ ⟨b, hb, rfl, rfl⟩
    repeat (first | refine LOps.val (LVal.makeFunc rfl (vs := [.pointer (some ⟨b, 0, none⟩)]) rfl) rfl rfl rfl ?_ | refine LOps.nil ?_ | refine andThen_normal ?_ | refine andThen_exit ?_ | refine andThen_ret ?_ | refine inBlock_normal ?_ | refine inBlock_ret ?_ | refine inBlock_here ?_ | refine inBlock_out rfl ?_ | refine LWp.seq ?_ | refine LWp.region ?_ | refine LWp.block ?_ | refine LWp.exit ?_ | refine LWp.ret ?_ | refine LWp.skip ?_ | refine LOps.valA ?_ | refine LOps.outA ?_ | refine LOps.whenA ?_ | refine LOps.pickA ?_ | refine LOps.storeA ?_)
    exact ⟨_, LRes.one rfl, b, hb, rfl, rfl⟩

def yieldsD : Option (Dv Int) → List (List TV)
  | none => []
  | some d => (List.range d.los.length).map fun k => [.one (sv (d.los.getD k noBytes)), .one (iv (d.xs.getD k 0))]

set_option maxHeartbeats 4000000 in
theorem allI_iter {G : Ctx} (hP : G.P = Try.prog) (d : Option (Dv Int)) (hd : ∀ x, d = some x → x.wf) (B : Nat) :
    LIter G 49 #[.pointer (some ⟨B, 0, none⟩)] (fun S => S.box B = some [dC d]) (yieldsD d) := by
  intro l I Ix S hI hIx hC hY h0
  have hD : TabOK G.P D := by rw [hP]; exact hD0
  have hB := hC 0 S h0
  have hln := lenI_F hP d
  refine LCalls.enter (fn := Try.f49) (by rw [hP]; exact Try.func49) rfl rfl ?_
  cases d with
  | none =>
    have hB : S.box B = some [.v (.pointer none)] := hB
    repeat (first | refine LOps.nil ?_ | refine andThen_normal ?_ | refine andThen_exit ?_ | refine andThen_ret ?_ | refine inBlock_normal ?_ | refine inBlock_ret ?_ | refine inBlock_here ?_ | refine inBlock_out rfl ?_ | refine LWp.seq ?_ | refine LWp.region ?_ | refine LWp.block ?_ | refine LWp.exit ?_ | refine LWp.ret ?_ | refine LWp.skip ?_ | refine LOps.val (LVal.call rfl rfl (by rw [hP]; exact Try.func14) rfl (by decide) (hln)) rfl rfl rfl ?_ | refine LOps.whenC (LVal.call rfl rfl (by rw [hP]; exact Try.func14) rfl (by decide) (hln)) ?_ | refine LOps.valA ?_ | refine LOps.outA ?_ | refine LOps.whenA ?_ | refine LOps.pickA ?_ | refine LOps.storeA ?_)
    refine LWp.loop (fun m T S' => m = 0 ∧ S' = S ∧ ∃ T', T = over T' [(5, .one (iv (0 : Nat))), (6, .one (iv 0))]) 0 ?_ ?_
    · exact ⟨rfl, rfl, _, holds.over ⟨rfl, rfl, trivial⟩⟩
    rintro m T S' ⟨rfl, rfl, T', rfl⟩
    repeat (first | refine LWp.condF rfl ?_ | refine LOps.nil ?_ | refine andThen_normal ?_ | refine andThen_exit ?_ | refine andThen_ret ?_ | refine inBlock_normal ?_ | refine inBlock_ret ?_ | refine inBlock_here ?_ | refine inBlock_out rfl ?_ | refine LWp.seq ?_ | refine LWp.region ?_ | refine LWp.block ?_ | refine LWp.exit ?_ | refine LWp.ret ?_ | refine LWp.skip ?_ | refine LOps.valA ?_ | refine LOps.outA ?_ | refine LOps.whenA ?_ | refine LOps.pickA ?_ | refine LOps.storeA ?_)
    exact ⟨_, LRes.none rfl, .inl h0⟩
  | some d =>
    have hB : S.box B = some [.p (dLI d)] := hB
    have hw := hd d rfl
    have hsm := hw.small
    have hln : LFun G 14 [dTI (some d)] (.one (iv (d.los.length : Nat))) := hln
    have hlen : (yieldsD (some d)).length = d.los.length := by simp [yieldsD]
    have m1 : (d.los.map sL).length = d.los.length := List.length_map ..
    have m2 : (d.xs.map iL).length = d.los.length := by rw [List.length_map, hw.len]
    rw [hlen]
    repeat (first | refine LOps.nil ?_ | refine andThen_normal ?_ | refine andThen_exit ?_ | refine andThen_ret ?_ | refine inBlock_normal ?_ | refine inBlock_ret ?_ | refine inBlock_here ?_ | refine inBlock_out rfl ?_ | refine LWp.seq ?_ | refine LWp.region ?_ | refine LWp.block ?_ | refine LWp.exit ?_ | refine LWp.ret ?_ | refine LWp.skip ?_ | refine LOps.val (LVal.call rfl rfl (by rw [hP]; exact Try.func14) rfl (by decide) (hln)) rfl rfl rfl ?_ | refine LOps.whenC (LVal.call rfl rfl (by rw [hP]; exact Try.func14) rfl (by decide) (hln)) ?_ | refine LOps.valA ?_ | refine LOps.outA ?_ | refine LOps.whenA ?_ | refine LOps.pickA ?_ | refine LOps.storeA ?_)
    refine LWp.loop (fun m T S' => ∃ T' k, k ≤ d.los.length ∧ m = d.los.length - k ∧ I k S' ∧ T = over T' [(0, .one (.v (.func (.yield l) #[] #[]))), (1, .one (.v (.pointer (some ⟨B, 0, none⟩)))), (5, .one (iv ((d.los.length : Nat) : Int))), (6, .one (iv (k : Nat)))]) d.los.length ?_ ?_
    · exact ⟨_, 0, by omega, rfl, h0, holds.over ⟨rfl, rfl, rfl, rfl, trivial⟩⟩
    rintro m T S' ⟨T', k, hk, rfl, hIk, rfl⟩
    have hB' : S'.box B = some [.p (dLI d)] := hC k S' hIk
    repeat (first | refine LOps.nil ?_ | refine andThen_normal ?_ | refine andThen_exit ?_ | refine andThen_ret ?_ | refine inBlock_normal ?_ | refine inBlock_ret ?_ | refine inBlock_here ?_ | refine inBlock_out rfl ?_ | refine LWp.seq ?_ | refine LWp.region ?_ | refine LWp.block ?_ | refine LWp.exit ?_ | refine LWp.ret ?_ | refine LWp.skip ?_ | refine LOps.valA ?_ | refine LOps.outA ?_ | refine LOps.whenA ?_ | refine LOps.pickA ?_ | refine LOps.storeA ?_)
    refine LWp.cond rfl (fun h => ?_) (fun h => ?_)
    · have hlt : k < d.los.length := by
        have h : decide ((k : Int) < (d.los.length : Int)) = true := h
        rw [decide_eq_true_iff] at h; omega
      have hlx : k < d.xs.length := by rw [← hw.len]; exact hlt
      have hxk : (yieldsD (some d))[k]? = some [.one (sv (d.los.getD k noBytes)), .one (iv (d.xs.getD k 0))] := by simp [yieldsD, hlt]
      rw [List.getD_eq_getElem?_getD, List.getElem?_eq_getElem hlt, Option.getD_some, List.getD_eq_getElem?_getD, List.getElem?_eq_getElem hlx, Option.getD_some] at hxk
      repeat (first | refine LOps.nil ?_ | refine andThen_normal ?_ | refine andThen_exit ?_ | refine andThen_ret ?_ | refine inBlock_normal ?_ | refine inBlock_ret ?_ | refine inBlock_here ?_ | refine inBlock_out rfl ?_ | refine LWp.seq ?_ | refine LWp.region ?_ | refine LWp.block ?_ | refine LWp.exit ?_ | refine LWp.ret ?_ | refine LWp.skip ?_ | refine LOps.valA ?_ | refine LOps.outA ?_ | refine LOps.whenA ?_ | refine LOps.pickA ?_ | refine LOps.storeA ?_)
      refine LWp.drawL [0, 1, 2, 3, 4, 5, 6, 7, 8, 9, 10, 11, 12, 13, 14, 15, 16] (by rw [hP]; rfl) rfl ?_
      repeat (first | refine LRl.nil ?_ | refine LRl.valA ?_ | refine LRl.outA ?_ | refine LRl.whenA ?_ | refine LRl.pickA ?_)
      refine LRl.yield rfl rfl rfl rfl rfl rfl rfl (hY k _ S' hxk hIk) (fun _ _ _ => .inr rfl) ?_
      rintro r S1 hcase
      repeat (first | refine LRl.nil ?_ | refine LRl.valA ?_ | refine LRl.outA ?_ | refine LRl.whenA ?_ | refine LRl.pickA ?_)
      refine LWp.cond rfl (fun h => ?_) (fun h => ?_)
      · repeat (first | refine LOps.nil ?_ | refine andThen_normal ?_ | refine andThen_exit ?_ | refine andThen_ret ?_ | refine inBlock_normal ?_ | refine inBlock_ret ?_ | refine inBlock_here ?_ | refine inBlock_out rfl ?_ | refine LWp.seq ?_ | refine LWp.region ?_ | refine LWp.block ?_ | refine LWp.exit ?_ | refine LWp.ret ?_ | refine LWp.skip ?_ | refine LOps.valA ?_ | refine LOps.outA ?_ | refine LOps.whenA ?_ | refine LOps.pickA ?_ | refine LOps.storeA ?_)
        refine ⟨_, LRes.none rfl, .inr ⟨k + 1, by omega, ?_⟩⟩
        rcases hcase with ⟨rfl, _⟩ | ⟨_, h2⟩
        · simp at h
        · exact h2
      · repeat (first | refine LOps.nil ?_ | refine andThen_normal ?_ | refine andThen_exit ?_ | refine andThen_ret ?_ | refine inBlock_normal ?_ | refine inBlock_ret ?_ | refine inBlock_here ?_ | refine inBlock_out rfl ?_ | refine LWp.seq ?_ | refine LWp.region ?_ | refine LWp.block ?_ | refine LWp.exit ?_ | refine LWp.ret ?_ | refine LWp.skip ?_ | refine LOps.valA ?_ | refine LOps.outA ?_ | refine LOps.whenA ?_ | refine LOps.pickA ?_ | refine LOps.storeA ?_)
        refine ⟨d.los.length - (k + 1), by omega, _, k + 1, by omega, rfl, ?_, holds.over ⟨rfl, rfl, rfl, rfl, trivial⟩⟩
        rcases hcase with ⟨_, h2⟩ | ⟨rfl, _⟩
        · exact h2
        · simp at h
    · obtain rfl : k = d.los.length := by
        have h : decide ((k : Int) < (d.los.length : Int)) = false := h
        rw [decide_eq_false_iff_not] at h; omega
      repeat (first | refine LOps.nil ?_ | refine andThen_normal ?_ | refine andThen_exit ?_ | refine andThen_ret ?_ | refine inBlock_normal ?_ | refine inBlock_ret ?_ | refine inBlock_here ?_ | refine inBlock_out rfl ?_ | refine LWp.seq ?_ | refine LWp.region ?_ | refine LWp.block ?_ | refine LWp.exit ?_ | refine LWp.ret ?_ | refine LWp.skip ?_ | refine LOps.valA ?_ | refine LOps.outA ?_ | refine LOps.whenA ?_ | refine LOps.pickA ?_ | refine LOps.storeA ?_)
      exact ⟨_, LRes.none rfl, .inl hIk⟩
end Go.Proofs.Ytkjbdldjfjkneaa.LF
