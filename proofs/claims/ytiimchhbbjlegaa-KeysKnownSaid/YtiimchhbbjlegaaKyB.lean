/- What KeysKnown calls, as facts of the LF frame: Between, Compare, Common, After, Slice, Unslice, Check, awake. -/
import Derived.Test.YtiimchhbbjlegaaKyR
import Derived.Test.YtiimchhbbjlegaaKeysL1
import Derived.Test.YtiimchhbbjlegaaKeysN
import Derived.Test.YtiimchhbbjlegaaLGc
import Derived.Test.YtiimchhbbjlegaaLFtab
set_option linter.unusedVariables false
set_option linter.unusedSimpArgs false
namespace Go.Proofs.Ytiimchhbbjlegaa.LF
open Go.RowKit

theorem repeat_F {G : Ctx} (hP : G.P = Try.prog) (b : UInt8) (c : Nat) (hc : c ≤ 1000) :
    LFun G 23 [.one (sv ⟨#[b]⟩), .one (iv c)] (.one (sv (rep1 b c))) :=
  .flat [.string ⟨#[b]⟩, .int .i64 c] rfl rfl fun w => by rw [hP]; exact repeat_any b c w hc
theorem betweenY_F {G : Ctx} (hP : G.P = Try.prog) (a b r : ByteArray) (h : a.data.toList < b.data.toList) (ha : a.size ≤ 2000) (hb : b.size ≤ 2000) (e : b.extract 0 (com a.data.toList b.data.toList + 1) = r) :
    LFun G 19 [.one (sv a), .one (sv b)] (.tup [.one (sv r), .one (bv true)]) :=
  .flatT [.string a, .string b] [.string r, .bool true] rfl rfl fun w => by
    rw [hP]
    refine (between_yes a b w h (by unfold maxLen; omega) (by unfold maxLen; omega)).mono ?_
    rintro e' w' ⟨rfl, k, rfl⟩
    exact ⟨by rw [e], (Still.drewN (Still.refl w) k).below _⟩
theorem betweenN_F {G : Ctx} (hP : G.P = Try.prog) (a b : ByteArray) (h : ¬ a.data.toList < b.data.toList) :
    LFun G 19 [.one (sv a), .one (sv b)] (.tup [.one (sv noBytes), .one (bv false)]) :=
  .flatT [.string a, .string b] [.string noBytes, .bool false] rfl rfl fun w => by
    rw [hP]
    refine (between_no a b w h).mono ?_
    rintro e' w' ⟨rfl, rfl⟩
    exact ⟨rfl, Below.refl _ _⟩
theorem compare_F {G : Ctx} (hP : G.P = Try.prog) (a b : ByteArray) (v : Int) (h : Go.Lib.compareBytes a.data.toList b.data.toList = v) :
    LFun G 17 [.one (sv a), .one (sv b)] (.one (iv v)) :=
  .flat [.string a, .string b] rfl rfl fun w => by
    rw [hP]
    refine (compare_at a b v h w).mono ?_
    rintro e' w' ⟨rfl, rfl⟩
    exact ⟨rfl, Below.refl _ _⟩
theorem common_F {G : Ctx} (hP : G.P = Try.prog) (a b : ByteArray) (v : Nat) (ha : a.size ≤ 2000) (hb : b.size ≤ 2000) (h : com a.data.toList b.data.toList = v) :
    LFun G 12 [.one (sv a), .one (sv b)] (.one (iv v)) :=
  .flat [.string a, .string b] rfl rfl fun w => by
    rw [hP]
    refine (common_any a b w (by unfold maxLen; omega) (by unfold maxLen; omega)).mono ?_
    rintro e' w' ⟨rfl, k, rfl⟩
    exact ⟨by rw [h], (Still.drewN (Still.refl w) k).below _⟩
theorem after_F {G : Ctx} (hP : G.P = Try.prog) (a r : ByteArray) (ha : a.size ≤ 2000) (h : a ++ ⟨#[0]⟩ = r) :
    LFun G 18 [.one (sv a)] (.one (sv r)) :=
  .flat [.string a] rfl rfl fun w => by
    rw [hP]
    refine (after_any a w (by unfold maxLen; omega)).mono ?_
    rintro e' w' ⟨rfl, rfl⟩
    exact ⟨by rw [h], Below.refl _ _⟩
theorem slice_F {G : Ctx} (hP : G.P = Try.prog) (s : ByteArray) (i : Int) (n c : Int) (hs : s.size ≤ 2000) (hn : (sliceN s.data.toList i : Int) = n) (hc : (sliceC s.data.toList i : Int) = c) :
    LFun G 13 [.one (sv s), .one (iv i)] (.tup [.one (.v (.int .u64 n)), .one (iv c)]) :=
  .flatT [.string s, .int .i64 i] [.int .u64 n, .int .i64 c] rfl rfl fun w => by
    rw [hP]
    refine (slice_any s i w (by omega)).mono ?_
    rintro e' w' ⟨rfl, rfl⟩
    exact ⟨by rw [hn, hc], Below.refl _ _⟩
theorem unslice_F {G : Ctx} (hP : G.P = Try.prog) (n : Nat) (c : Int) (r : ByteArray) (hn : n < 18446744073709551616) (h : (⟨(unsl n c).toArray⟩ : ByteArray) = r) :
    LFun G 15 [.one (.v (.int .u64 n)), .one (iv c)] (.one (sv r)) :=
  .flat [.int .u64 n, .int .i64 c] rfl rfl fun w => by
    rw [hP]
    refine (unslice_any n c w hn).mono ?_
    rintro e' w' ⟨rfl, hw⟩
    exact ⟨by rw [h], hw⟩
theorem awake_F {G : Ctx} (hP : G.P = Try.prog) : LFun G 11 [] (.one (bv true)) :=
  .flat [] rfl rfl fun w => by
    rw [hP]
    refine (awake_any w).mono ?_
    rintro e' w' ⟨rfl, rfl⟩
    exact ⟨rfl, Below.refl _ _⟩

def chk (a b : ByteArray) : Int := if decide ((a.size : Int) > 24) || decide ((b.size : Int) > 32) then 7 else 0
theorem check_L {G : Ctx} (hP : G.P = Try.prog) (a b : ByteArray) (S : LS) :
    LCalls G 24 [.one (sv a), .one (sv b)] (fun r' S' => r' = .one (iv (chk a b)) ∧ S' = S) S := by
  have hD : TabOK G.P D := by rw [hP]; exact hD0
  refine LCalls.enter (fn := Try.f24) (by rw [hP]; exact Try.func24) rfl rfl ?_
  repeat (first | refine LOps.nil ?_ | refine andThen_normal ?_ | refine andThen_exit ?_ | refine andThen_ret ?_ | refine inBlock_normal ?_ | refine inBlock_ret ?_ | refine inBlock_here ?_ | refine inBlock_out rfl ?_ | refine LWp.seq ?_ | refine LWp.region ?_ | refine LWp.block ?_ | refine LWp.exit ?_ | refine LWp.ret ?_ | refine LWp.skip ?_ | refine LOps.valA ?_ | refine LOps.outA ?_ | refine LOps.whenA ?_ | refine LOps.pickA ?_ | refine LOps.storeA ?_)
  refine LWp.cond rfl (fun h => ?_) (fun h => ?_)
  · repeat (first | refine LOps.nil ?_ | refine andThen_normal ?_ | refine andThen_exit ?_ | refine andThen_ret ?_ | refine inBlock_normal ?_ | refine inBlock_ret ?_ | refine inBlock_here ?_ | refine inBlock_out rfl ?_ | refine LWp.seq ?_ | refine LWp.region ?_ | refine LWp.block ?_ | refine LWp.exit ?_ | refine LWp.ret ?_ | refine LWp.skip ?_ | refine LOps.valA ?_ | refine LOps.outA ?_ | refine LOps.whenA ?_ | refine LOps.pickA ?_ | refine LOps.storeA ?_)
    have e : chk a b = 7 := if_pos h
    rw [e]
    exact ⟨_, LRes.one rfl, rfl, rfl⟩
  · repeat (first | refine LOps.nil ?_ | refine andThen_normal ?_ | refine andThen_exit ?_ | refine andThen_ret ?_ | refine inBlock_normal ?_ | refine inBlock_ret ?_ | refine inBlock_here ?_ | refine inBlock_out rfl ?_ | refine LWp.seq ?_ | refine LWp.region ?_ | refine LWp.block ?_ | refine LWp.exit ?_ | refine LWp.ret ?_ | refine LWp.skip ?_ | refine LOps.valA ?_ | refine LOps.outA ?_ | refine LOps.whenA ?_ | refine LOps.pickA ?_ | refine LOps.storeA ?_)
    have e : chk a b = 0 := if_neg (by rw [h]; decide)
    rw [e]
    exact ⟨_, LRes.one rfl, rfl, rfl⟩
theorem check_F {G : Ctx} (hP : G.P = Try.prog) (a b : ByteArray) (v : Int) (h : chk a b = v) :
    LFun G 24 [.one (sv a), .one (sv b)] (.one (iv v)) := by subst h; exact fun S => check_L hP a b S
end Go.Proofs.Ytiimchhbbjlegaa.LF
