/- DirKnown: the walk. -/
import Derived.Test.YtkjbdldjfjkneaaLDk
import Derived.Test.YtkjbdldjfjkneaaLDcs
set_option linter.unusedVariables false
set_option linter.unusedSimpArgs false
namespace Go.Proofs.Ytkjbdldjfjkneaa.LF
open Go.RowKit
set_option linter.unusedVariables false

abbrev tx (c : UInt8) : ByteArray := ⟨#[c]⟩
def loK (k : Nat) : ByteArray := if k = 0 then noBytes else ⟨[UInt8.ofNat (97 + k)].toArray⟩
def losK (n : Nat) : List ByteArray := (List.range n).map loK
def xsK (n : Nat) : List ByteArray := (List.range n).map fun _ => tx 120
theorem losK_len (n : Nat) : (losK n).length = n := by simp [losK]
theorem xsK_len (n : Nat) : (xsK n).length = n := by simp [xsK]
theorem losK_succ (n : Nat) : losK (n + 1) = losK n ++ [loK n] := by simp [losK, List.range_succ]
theorem xsK_succ (n : Nat) : xsK (n + 1) = xsK n ++ [tx 120] := by simp [xsK, List.range_succ]
abbrev s0 : Dv ByteArray := ⟨[noBytes], [tx 97]⟩
abbrev s1 : Dv ByteArray := ⟨[noBytes, tx 109], [tx 98, tx 99]⟩
abbrev s2 : Dv ByteArray := ⟨[noBytes, tx 102], [tx 100, tx 101]⟩
abbrev s3 : Dv ByteArray := ⟨[noBytes], [tx 111]⟩
def s4 : Dv ByteArray := ⟨losK 16, xsK 16⟩
theorem s_wf {d : Dv ByteArray} (h : d.wf) : ∀ x, some d = some x → x.wf := fun x e => by injection e with e; rw [← e]; exact h
theorem s0_wf : s0.wf := ⟨rfl, by decide, Asc.rises (by decide +kernel), rfl⟩
theorem s1_wf : s1.wf := ⟨rfl, by decide, Asc.rises (by decide +kernel), rfl⟩
theorem s2_wf : s2.wf := ⟨rfl, by decide, Asc.rises (by decide +kernel), rfl⟩
theorem s3_wf : s3.wf := ⟨rfl, by decide, Asc.rises (by decide +kernel), rfl⟩
theorem s4_wf : s4.wf := ⟨rfl, by decide, Asc.rises (by decide +kernel), rfl⟩
theorem v1 : splitDS (some s0) 0 (tx 109) (tx 98) (tx 99) = (some s1, 0) := by kernel_rfl
theorem v2 : findDS (some s1) (tx 107) = (0, tx 98) := by kernel_rfl
theorem v3 : findDS (some s1) (tx 109) = (1, tx 99) := by kernel_rfl
theorem v4 : hiDS (some s1) 0 = (tx 109, true) := by kernel_rfl
theorem v5 : hiDS (some s1) 1 = (noBytes, false) := by kernel_rfl
theorem v6 : splitDS (some s1) 1 (tx 107) (tx 120) (tx 121) = (none, 21) := by kernel_rfl
theorem v7 : splitDS (some s1) 0 noBytes (tx 120) (tx 121) = (none, 21) := by kernel_rfl
theorem v8 : mergeDS (some s1) 1 (tx 120) = (none, 21) := by kernel_rfl
theorem v9 : repDS (some s1) 0 2 [noBytes, tx 102] [tx 100, tx 101] = (some s2, 0) := by kernel_rfl
theorem v10 : findDS (some s2) (tx 122) = (1, tx 101) := by kernel_rfl
theorem v11 : mergeDS (some s2) 0 (tx 111) = (some s3, 0) := by kernel_rfl
theorem v12 : repDS (some s3) 0 1 (losK 17) (xsK 17) = (none, 5) := by kernel_rfl
theorem v13 : repDS (some s3) 0 1 (losK 16) (xsK 16) = (some s4, 0) := by kernel_rfl
theorem v14 : splitDS (some s4) 0 (tx 65) (tx 120) (tx 121) = (none, 5) := by kernel_rfl

set_option maxHeartbeats 8000000 in
set_option maxRecDepth 10000 in
theorem known_L {G : Ctx} (hP : G.P = Try.prog) (S : LS) : LCalls G 4 [] (fun r _ => r = .one (bv true)) S := by
  have hD : TabOK G.P D := by rw [hP]; exact hD0
  have h0 := newS_F hP (tx 97)
  have h1 := splitS_F hP (some s0) (s_wf s0_wf) 0 (tx 109) (tx 98) (tx 99)
  have h2 := findS_F hP (some s1) (s_wf s1_wf) (tx 107)
  have h3 := findS_F hP (some s1) (s_wf s1_wf) (tx 109)
  have h4 := hiS_F hP (some s1) (fun x e => (s_wf s1_wf x e).small) 0
  have h5 := hiS_F hP (some s1) (fun x e => (s_wf s1_wf x e).small) 1
  have h6 := splitS_F hP (some s1) (s_wf s1_wf) 1 (tx 107) (tx 120) (tx 121)
  have h7 := splitS_F hP (some s1) (s_wf s1_wf) 0 noBytes (tx 120) (tx 121)
  have h8 := mergeS_F hP (some s1) (s_wf s1_wf) 1 (tx 120)
  have h9 := replaceS_F hP (some s1) (s_wf s1_wf) 0 2 [noBytes, tx 102] [tx 100, tx 101] (by simp) (by simp)
  have h10 := findS_F hP (some s2) (s_wf s2_wf) (tx 122)
  have h11 := mergeS_F hP (some s2) (s_wf s2_wf) 0 (tx 111)
  have h12 := replaceS_F hP (some s3) (s_wf s3_wf) 0 1 (losK 17) (xsK 17) (by rw [losK_len]; omega) (by rw [xsK_len]; omega)
  have h13 := replaceS_F hP (some s3) (s_wf s3_wf) 0 1 (losK 16) (xsK 16) (by rw [losK_len]; omega) (by rw [xsK_len]; omega)
  have h14 := splitS_F hP (some s4) (s_wf s4_wf) 0 (tx 65) (tx 120) (tx 121)
  have l1 : LFun G 20 [dTS (some s1)] (.one (iv 2)) := lenS_F hP (some s1)
  have l3 : LFun G 20 [dTS (some s3)] (.one (iv 1)) := lenS_F hP (some s3)
  have l4 : LFun G 20 [dTS (some s4)] (.one (iv 16)) := lenS_F hP (some s4)
  rw [v1] at h1; rw [v2] at h2; rw [v3] at h3; rw [v4] at h4; rw [v5] at h5; rw [v6] at h6; rw [v7] at h7; rw [v8] at h8; rw [v9] at h9; rw [v10] at h10; rw [v11] at h11; rw [v12] at h12; rw [v13] at h13; rw [v14] at h14
  have ml : ((losK 17).map sL).length = 17 := by rw [List.length_map, losK_len]
  have mx : ((xsK 17).map sL).length = 17 := by rw [List.length_map, xsK_len]
  have t1 : (losK 17).take 16 = losK 16 := by kernel_rfl
  have t2 : (xsK 17).take 16 = xsK 16 := by kernel_rfl
  refine LCalls.enter (fn := Try.f4) (by rw [hP]; exact Try.func4) rfl rfl ?_
  repeat (first | refine LOps.valH (LVal.call rfl rfl (by rw [hP]; exact Try.func18) rfl (by decide) (h0)) ?_ | refine LOps.valH (LVal.call rfl rfl (by rw [hP]; exact Try.func19) rfl (by decide) (h1)) ?_ | refine LOps.valH (LVal.call rfl rfl (by rw [hP]; exact Try.func19) rfl (by decide) (h6)) ?_ | refine LOps.valH (LVal.call rfl rfl (by rw [hP]; exact Try.func19) rfl (by decide) (h7)) ?_ | refine LOps.valH (LVal.call rfl rfl (by rw [hP]; exact Try.func20) rfl (by decide) (l1)) ?_ | refine LOps.valH (LVal.call rfl rfl (by rw [hP]; exact Try.func21) rfl (by decide) (h2)) ?_ | refine LOps.valH (LVal.call rfl rfl (by rw [hP]; exact Try.func21) rfl (by decide) (h3)) ?_ | refine LOps.valH (LVal.call rfl rfl (by rw [hP]; exact Try.func21) rfl (by decide) (h10)) ?_ | refine LOps.valH (LVal.call rfl rfl (by rw [hP]; exact Try.func22) rfl (by decide) (h4)) ?_ | refine LOps.valH (LVal.call rfl rfl (by rw [hP]; exact Try.func22) rfl (by decide) (h5)) ?_ | refine LOps.valH (LVal.call rfl rfl (by rw [hP]; exact Try.func23) rfl (by decide) (h8)) ?_ | refine LOps.valH (LVal.call rfl rfl (by rw [hP]; exact Try.func23) rfl (by decide) (h11)) ?_ | refine LOps.valH (LVal.call rfl rfl (by rw [hP]; exact Try.func24) rfl (by decide) (h9)) ?_ | refine LWp.condF rfl ?_ | refine LOps.val (LVal.buildSlice hD rfl rfl rfl rfl rfl rfl rfl rfl rfl rfl) rfl rfl rfl ?_ | refine LOps.valH (LVal.to (LVal.binOp hD rfl rfl rfl rfl) (r' := .one (.v (.bool true))) (congrArg (fun b => TV.one (.v (.bool b))) (by first | exact decide_eq_true (by omega) | (rw [beq_iff_eq]; omega) | (rw [bne_iff_ne]; omega)))) ?_ | refine LOps.valH (LVal.to (LVal.binOp hD rfl rfl rfl rfl) (r' := .one (.v (.bool false))) (congrArg (fun b => TV.one (.v (.bool b))) (by first | exact decide_eq_false (by omega) | (rw [beq_eq_false_iff_ne]; omega) | (rw [bne_eq_false_iff_eq]; omega)))) ?_ | refine LOps.valW ?_ | refine LOps.nil ?_ | refine andThen_normal ?_ | refine andThen_exit ?_ | refine andThen_ret ?_ | refine inBlock_normal ?_ | refine inBlock_ret ?_ | refine inBlock_here ?_ | refine inBlock_out rfl ?_ | refine LWp.seq ?_ | refine LWp.region ?_ | refine LWp.block ?_ | refine LWp.exit ?_ | refine LWp.ret ?_ | refine LWp.skip ?_ | refine LOps.val (LVal.call rfl rfl (by rw [hP]; exact Try.func18) rfl (by decide) (h0)) rfl rfl rfl ?_ | refine LOps.val (LVal.call rfl rfl (by rw [hP]; exact Try.func19) rfl (by decide) (h1)) rfl rfl rfl ?_ | refine LOps.val (LVal.call rfl rfl (by rw [hP]; exact Try.func19) rfl (by decide) (h6)) rfl rfl rfl ?_ | refine LOps.val (LVal.call rfl rfl (by rw [hP]; exact Try.func19) rfl (by decide) (h7)) rfl rfl rfl ?_ | refine LOps.val (LVal.call rfl rfl (by rw [hP]; exact Try.func20) rfl (by decide) (l1)) rfl rfl rfl ?_ | refine LOps.val (LVal.call rfl rfl (by rw [hP]; exact Try.func21) rfl (by decide) (h2)) rfl rfl rfl ?_ | refine LOps.val (LVal.call rfl rfl (by rw [hP]; exact Try.func21) rfl (by decide) (h3)) rfl rfl rfl ?_ | refine LOps.val (LVal.call rfl rfl (by rw [hP]; exact Try.func21) rfl (by decide) (h10)) rfl rfl rfl ?_ | refine LOps.val (LVal.call rfl rfl (by rw [hP]; exact Try.func22) rfl (by decide) (h4)) rfl rfl rfl ?_ | refine LOps.val (LVal.call rfl rfl (by rw [hP]; exact Try.func22) rfl (by decide) (h5)) rfl rfl rfl ?_ | refine LOps.val (LVal.call rfl rfl (by rw [hP]; exact Try.func23) rfl (by decide) (h8)) rfl rfl rfl ?_ | refine LOps.val (LVal.call rfl rfl (by rw [hP]; exact Try.func23) rfl (by decide) (h11)) rfl rfl rfl ?_ | refine LOps.val (LVal.call rfl rfl (by rw [hP]; exact Try.func24) rfl (by decide) (h9)) rfl rfl rfl ?_ | refine LOps.whenC (LVal.call rfl rfl (by rw [hP]; exact Try.func18) rfl (by decide) (h0)) ?_ | refine LOps.whenC (LVal.call rfl rfl (by rw [hP]; exact Try.func19) rfl (by decide) (h1)) ?_ | refine LOps.whenC (LVal.call rfl rfl (by rw [hP]; exact Try.func19) rfl (by decide) (h6)) ?_ | refine LOps.whenC (LVal.call rfl rfl (by rw [hP]; exact Try.func19) rfl (by decide) (h7)) ?_ | refine LOps.whenC (LVal.call rfl rfl (by rw [hP]; exact Try.func20) rfl (by decide) (l1)) ?_ | refine LOps.whenC (LVal.call rfl rfl (by rw [hP]; exact Try.func21) rfl (by decide) (h2)) ?_ | refine LOps.whenC (LVal.call rfl rfl (by rw [hP]; exact Try.func21) rfl (by decide) (h3)) ?_ | refine LOps.whenC (LVal.call rfl rfl (by rw [hP]; exact Try.func21) rfl (by decide) (h10)) ?_ | refine LOps.whenC (LVal.call rfl rfl (by rw [hP]; exact Try.func22) rfl (by decide) (h4)) ?_ | refine LOps.whenC (LVal.call rfl rfl (by rw [hP]; exact Try.func22) rfl (by decide) (h5)) ?_ | refine LOps.whenC (LVal.call rfl rfl (by rw [hP]; exact Try.func23) rfl (by decide) (h8)) ?_ | refine LOps.whenC (LVal.call rfl rfl (by rw [hP]; exact Try.func23) rfl (by decide) (h11)) ?_ | refine LOps.whenC (LVal.call rfl rfl (by rw [hP]; exact Try.func24) rfl (by decide) (h9)) ?_ | refine LOps.valA ?_ | refine LOps.outA ?_ | refine LOps.whenA ?_ | refine LOps.pickA ?_ | refine LOps.storeA ?_)
  refine LWp.loop (fun m T S' => ∃ T' j o1 o2, j ≤ 17 ∧ m = 17 - j ∧ Owned S' 9 j o1 ∧ Owned S' 9 j o2 ∧ (∀ b, o1 = .own b → o2 ≠ .own b) ∧ T = over T' [(11, .one (bv true)), (13, .one (iv 21)), (15, .one (iv 21)), (17, .one (iv 21)), (19, .one (iv 0)), (20, .one (iv 1)), (21, .one (sv (tx 101))), (22, dTS (some s3)), (23, .one (iv 0)), (24, .one (.sl o1 ((losK j).map sL))), (25, .one (.sl o2 ((xsK j).map sL))), (26, .one (iv (j : Nat)))]) 17 ?_ ?_
  · exact ⟨_, 0, .nil, .nil, by omega, rfl, rfl, rfl, fun b h => (by cases h), holds.over ⟨rfl, rfl, rfl, rfl, rfl, rfl, rfl, rfl, rfl, rfl, rfl, rfl, trivial⟩⟩
  rintro m T S1 ⟨T', j, o1, o2, hj, rfl, own1, own2, hap, rfl⟩
  repeat (first | refine LOps.nil ?_ | refine andThen_normal ?_ | refine andThen_exit ?_ | refine andThen_ret ?_ | refine inBlock_normal ?_ | refine inBlock_ret ?_ | refine inBlock_here ?_ | refine inBlock_out rfl ?_ | refine LWp.seq ?_ | refine LWp.region ?_ | refine LWp.block ?_ | refine LWp.exit ?_ | refine LWp.ret ?_ | refine LWp.skip ?_ | refine LOps.valA ?_ | refine LOps.outA ?_ | refine LOps.whenA ?_ | refine LOps.pickA ?_ | refine LOps.storeA ?_)
  refine LWp.cond rfl (fun h => ?_) (fun h => ?_)
  · have hlt : j < 17 := by
      have h : decide ((j : Int) < 17) = true := h
      rw [decide_eq_true_iff] at h; omega
    clear h
    repeat (first | (refine LWp.seq (LWp.cut 21 (fun T2 S2 => S2 = S1 ∧ ∃ T', T2 = over T' [(11, .one (bv true)), (13, .one (iv 21)), (15, .one (iv 21)), (17, .one (iv 21)), (19, .one (iv 0)), (20, .one (iv 1)), (21, .one (sv (tx 101))), (22, dTS (some s3)), (23, .one (iv 0)), (24, .one (.sl o1 ((losK j).map sL))), (25, .one (.sl o2 ((xsK j).map sL))), (26, .one (iv (j : Nat))), (27, .one (sv (loK j)))]) rfl ?_ ?_); rotate_left) | refine LOps.nil ?_ | refine andThen_normal ?_ | refine andThen_exit ?_ | refine andThen_ret ?_ | refine inBlock_normal ?_ | refine inBlock_ret ?_ | refine inBlock_here ?_ | refine inBlock_out rfl ?_ | refine LWp.seq ?_ | refine LWp.region ?_ | refine LWp.block ?_ | refine LWp.exit ?_ | refine LWp.ret ?_ | refine LWp.skip ?_ | refine LOps.valA ?_ | refine LOps.outA ?_ | refine LOps.whenA ?_ | refine LOps.pickA ?_ | refine LOps.storeA ?_)
    rotate_left
    · by_cases h0 : j = 0
      · subst h0
        repeat (first | refine LWp.condF rfl ?_ | refine LOps.valH (LVal.to (LVal.binOp hD rfl rfl rfl rfl) (r' := .one (.v (.bool true))) (congrArg (fun b => TV.one (.v (.bool b))) (by first | exact decide_eq_true (by omega) | (rw [beq_iff_eq]; omega) | (rw [bne_iff_ne]; omega)))) ?_ | refine LOps.valH (LVal.to (LVal.binOp hD rfl rfl rfl rfl) (r' := .one (.v (.bool false))) (congrArg (fun b => TV.one (.v (.bool b))) (by first | exact decide_eq_false (by omega) | (rw [beq_eq_false_iff_ne]; omega) | (rw [bne_eq_false_iff_eq]; omega)))) ?_ | refine LOps.valW ?_ | refine LOps.nil ?_ | refine andThen_normal ?_ | refine andThen_exit ?_ | refine andThen_ret ?_ | refine inBlock_normal ?_ | refine inBlock_ret ?_ | refine inBlock_here ?_ | refine inBlock_out rfl ?_ | refine LWp.seq ?_ | refine LWp.region ?_ | refine LWp.block ?_ | refine LWp.exit ?_ | refine LWp.ret ?_ | refine LWp.skip ?_ | refine LOps.valA ?_ | refine LOps.outA ?_ | refine LOps.whenA ?_ | refine LOps.pickA ?_ | refine LOps.storeA ?_)
        exact ⟨rfl, _, holds.over ⟨rfl, rfl, rfl, rfl, rfl, rfl, rfl, rfl, rfl, rfl, rfl, rfl, rfl, trivial⟩⟩
      · repeat (first | refine LWp.condT rfl ?_ | refine LOps.val (LVal.to (LVal.convInt hD rfl rfl rfl rfl rfl) (r' := .one (.v (.int .u8 ((UInt8.ofNat (97 + j)).toNat : Int)))) (by rw [show (UInt8.ofNat (97 + j)).toNat = 97 + j by simp; omega]; congr 3; rw [IntKind.wrap_eq (by simp [IntKind.min, IntKind.max]; omega)]; omega)) rfl rfl rfl ?_ | refine LOps.val (LVal.bytesStr (bs := [UInt8.ofNat (97 + j)]) hD rfl rfl rfl rfl rfl rfl rfl rfl) rfl rfl rfl ?_ | refine LOps.valH (LVal.to (LVal.binOp hD rfl rfl rfl rfl) (r' := .one (.v (.bool true))) (congrArg (fun b => TV.one (.v (.bool b))) (by first | exact decide_eq_true (by omega) | (rw [beq_iff_eq]; omega) | (rw [bne_iff_ne]; omega)))) ?_ | refine LOps.valH (LVal.to (LVal.binOp hD rfl rfl rfl rfl) (r' := .one (.v (.bool false))) (congrArg (fun b => TV.one (.v (.bool b))) (by first | exact decide_eq_false (by omega) | (rw [beq_eq_false_iff_ne]; omega) | (rw [bne_eq_false_iff_eq]; omega)))) ?_ | refine LOps.valW ?_ | refine LOps.nil ?_ | refine andThen_normal ?_ | refine andThen_exit ?_ | refine andThen_ret ?_ | refine inBlock_normal ?_ | refine inBlock_ret ?_ | refine inBlock_here ?_ | refine inBlock_out rfl ?_ | refine LWp.seq ?_ | refine LWp.region ?_ | refine LWp.block ?_ | refine LWp.exit ?_ | refine LWp.ret ?_ | refine LWp.skip ?_ | refine LOps.valA ?_ | refine LOps.outA ?_ | refine LOps.whenA ?_ | refine LOps.pickA ?_ | refine LOps.storeA ?_)
        exact ⟨rfl, _, holds.over ⟨rfl, rfl, rfl, rfl, rfl, rfl, rfl, rfl, rfl, rfl, rfl, rfl, by unfold loK; rw [if_neg h0]; rfl, trivial⟩⟩
    rintro _ S2 ⟨rfl, T2, rfl⟩
    repeat (first | refine LOps.nil ?_ | refine andThen_normal ?_ | refine andThen_exit ?_ | refine andThen_ret ?_ | refine inBlock_normal ?_ | refine inBlock_ret ?_ | refine inBlock_here ?_ | refine inBlock_out rfl ?_ | refine LWp.seq ?_ | refine LWp.region ?_ | refine LWp.block ?_ | refine LWp.exit ?_ | refine LWp.ret ?_ | refine LWp.skip ?_ | refine LOps.valA ?_ | refine LOps.outA ?_ | refine LOps.whenA ?_ | refine LOps.pickA ?_ | refine LOps.storeA ?_)
    refine LOps.do (LDo.push hD rfl rfl rfl rfl rfl rfl rfl rfl rfl rfl (show _ = j by rw [List.length_map, losK_len]) own1 (by omega)) rfl rfl rfl ?_
    rintro _ S3 ⟨o3, rfl, own3, hup, hno⟩
    have hap' := own_apart own2 hno hap
    have own2' := own2.upto hup hap
    repeat (first | refine LOps.nil ?_ | refine andThen_normal ?_ | refine andThen_exit ?_ | refine andThen_ret ?_ | refine inBlock_normal ?_ | refine inBlock_ret ?_ | refine inBlock_here ?_ | refine inBlock_out rfl ?_ | refine LWp.seq ?_ | refine LWp.region ?_ | refine LWp.block ?_ | refine LWp.exit ?_ | refine LWp.ret ?_ | refine LWp.skip ?_ | refine LOps.valA ?_ | refine LOps.outA ?_ | refine LOps.whenA ?_ | refine LOps.pickA ?_ | refine LOps.storeA ?_)
    refine LOps.do (LDo.push hD rfl rfl rfl rfl rfl rfl rfl rfl rfl rfl (show _ = j by rw [List.length_map, xsK_len]) own2' (by omega)) rfl rfl rfl ?_
    rintro _ S4 ⟨o4, rfl, own4, hup2, hno2⟩
    have own3' := own3.upto hup2 (fun b hb h => hap' b h hb)
    have hap2 := own_apart own3 hno2 (fun b hb h => hap' b h hb)
    repeat (first | refine LOps.nil ?_ | refine andThen_normal ?_ | refine andThen_exit ?_ | refine andThen_ret ?_ | refine inBlock_normal ?_ | refine inBlock_ret ?_ | refine inBlock_here ?_ | refine inBlock_out rfl ?_ | refine LWp.seq ?_ | refine LWp.region ?_ | refine LWp.block ?_ | refine LWp.exit ?_ | refine LWp.ret ?_ | refine LWp.skip ?_ | refine LOps.valA ?_ | refine LOps.outA ?_ | refine LOps.whenA ?_ | refine LOps.pickA ?_ | refine LOps.storeA ?_)
    exact ⟨17 - (j + 1), by omega, _, j + 1, o3, o4, by omega, rfl, own3', own4, fun b hb h => hap2 b h hb, holds.over ⟨rfl, rfl, rfl, rfl, rfl, rfl, rfl, rfl, rfl, by rw [losK_succ, List.map_append]; rfl, by rw [xsK_succ, List.map_append]; rfl, rfl, trivial⟩⟩
  · have hge : j = 17 := by
      have h : decide ((j : Int) < 17) = false := h
      rw [decide_eq_false_iff_not] at h; omega
    subst hge
    repeat (first | refine LOps.nil ?_ | refine andThen_normal ?_ | refine andThen_exit ?_ | refine andThen_ret ?_ | refine inBlock_normal ?_ | refine inBlock_ret ?_ | refine inBlock_here ?_ | refine inBlock_out rfl ?_ | refine LWp.seq ?_ | refine LWp.region ?_ | refine LWp.block ?_ | refine LWp.exit ?_ | refine LWp.ret ?_ | refine LWp.skip ?_ | refine LOps.val (LVal.call rfl rfl (by rw [hP]; exact Try.func24) rfl (by decide) (h12)) rfl rfl rfl ?_ | refine LOps.whenC (LVal.call rfl rfl (by rw [hP]; exact Try.func24) rfl (by decide) (h12)) ?_ | refine LOps.valA ?_ | refine LOps.outA ?_ | refine LOps.whenA ?_ | refine LOps.pickA ?_ | refine LOps.storeA ?_)
    refine LWp.drawL [0, 1, 2, 3, 4, 5, 6, 7, 8, 9, 10] (by rw [hP]; rfl) rfl ?_
    repeat (first | refine LRl.valC (fun _ => LVal.to (LVal.takeMap (n := 16) hD rfl rfl rfl rfl rfl rfl (by rw [losK_len]; omega) rfl (fun _ _ => rfl)) (r' := .one (.sl .sh ((losK 16).map sL))) (by rw [t1])) ?_ | refine LRl.valC (fun _ => LVal.to (LVal.takeMap (n := 16) hD rfl rfl rfl rfl rfl rfl (by rw [xsK_len]; omega) rfl (fun _ _ => rfl)) (r' := .one (.sl .sh ((xsK 16).map sL))) (by rw [t2])) ?_ | refine LRl.valC (fun _ => (LVal.call rfl rfl (by rw [hP]; exact Try.func24) rfl (by decide) (h13))) ?_ | refine LRl.whenC (fun _ => (LVal.call rfl rfl (by rw [hP]; exact Try.func24) rfl (by decide) (h13))) ?_ | refine LRl.nil ?_ | refine LRl.valA ?_ | refine LRl.outA ?_ | refine LRl.whenA ?_ | refine LRl.pickA ?_)
    repeat (first | refine LOps.valH (LVal.call rfl rfl (by rw [hP]; exact Try.func19) rfl (by decide) (h14)) ?_ | refine LOps.valH (LVal.call rfl rfl (by rw [hP]; exact Try.func20) rfl (by decide) (l3)) ?_ | refine LOps.valH (LVal.call rfl rfl (by rw [hP]; exact Try.func20) rfl (by decide) (l4)) ?_ | refine LOps.valH (LVal.call rfl rfl (by rw [hP]; exact Try.func10) rfl (by decide) (wakes_F hP)) ?_ | refine LOps.valH (LVal.to (LVal.binOp hD rfl rfl rfl rfl) (r' := .one (.v (.bool true))) (congrArg (fun b => TV.one (.v (.bool b))) (by first | exact decide_eq_true (by omega) | (rw [beq_iff_eq]; omega) | (rw [bne_iff_ne]; omega)))) ?_ | refine LOps.valH (LVal.to (LVal.binOp hD rfl rfl rfl rfl) (r' := .one (.v (.bool false))) (congrArg (fun b => TV.one (.v (.bool b))) (by first | exact decide_eq_false (by omega) | (rw [beq_eq_false_iff_ne]; omega) | (rw [bne_eq_false_iff_eq]; omega)))) ?_ | refine LOps.valW ?_ | refine LOps.nil ?_ | refine andThen_normal ?_ | refine andThen_exit ?_ | refine andThen_ret ?_ | refine inBlock_normal ?_ | refine inBlock_ret ?_ | refine inBlock_here ?_ | refine inBlock_out rfl ?_ | refine LWp.seq ?_ | refine LWp.region ?_ | refine LWp.block ?_ | refine LWp.exit ?_ | refine LWp.ret ?_ | refine LWp.skip ?_ | refine LOps.val (LVal.call rfl rfl (by rw [hP]; exact Try.func19) rfl (by decide) (h14)) rfl rfl rfl ?_ | refine LOps.val (LVal.call rfl rfl (by rw [hP]; exact Try.func20) rfl (by decide) (l3)) rfl rfl rfl ?_ | refine LOps.val (LVal.call rfl rfl (by rw [hP]; exact Try.func20) rfl (by decide) (l4)) rfl rfl rfl ?_ | refine LOps.val (LVal.call rfl rfl (by rw [hP]; exact Try.func10) rfl (by decide) (wakes_F hP)) rfl rfl rfl ?_ | refine LOps.whenC (LVal.call rfl rfl (by rw [hP]; exact Try.func19) rfl (by decide) (h14)) ?_ | refine LOps.whenC (LVal.call rfl rfl (by rw [hP]; exact Try.func20) rfl (by decide) (l3)) ?_ | refine LOps.whenC (LVal.call rfl rfl (by rw [hP]; exact Try.func20) rfl (by decide) (l4)) ?_ | refine LOps.whenC (LVal.call rfl rfl (by rw [hP]; exact Try.func10) rfl (by decide) (wakes_F hP)) ?_ | refine LOps.valA ?_ | refine LOps.outA ?_ | refine LOps.whenA ?_ | refine LOps.pickA ?_ | refine LOps.storeA ?_)
    exact ⟨_, LRes.one rfl, rfl⟩
end Go.Proofs.Ytkjbdldjfjkneaa.LF

namespace Go.Proofs.Ytkjbdldjfjkneaa
open Go.RowKit LF
theorem dirKnown_walk (W : World) :
    Calls Try.prog 4 #[] W fun e W' => e = .returned (.bool true) ∧ Below W.heap.size W W' := by
  exact law_calls (fun G S h => known_L h S) .nil
end Go.Proofs.Ytkjbdldjfjkneaa
