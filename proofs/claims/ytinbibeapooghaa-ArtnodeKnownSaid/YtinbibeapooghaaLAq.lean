/- The walk of the law 'ArtnodeKnown'. -/
import Derived.Test.YtinbibeapooghaaLAp
set_option linter.unusedVariables false
set_option linter.unusedSimpArgs false
namespace Go.Proofs.Ytinbibeapooghaa.LF
open Go.RowKit
set_option linter.unusedVariables false
attribute [local irreducible] andThen inBlock LWp LOps LCalls

/-- The kind of a node that was filled, and is emptied. -/
def kindDn (n : Nat) : Nat := if n ≤ 3 then 4 else if n ≤ 12 then 16 else if n ≤ 36 then 48 else 256
theorem kindDn_drop {n : Nat} (h : 0 < n) : shrinkK (kindDn n) (n - 1) = kindDn (n - 1) := by
  unfold kindDn shrinkK
  by_cases h1 : n ≤ 3
  · rw [if_pos h1, if_pos (by omega : n - 1 ≤ 3)]; simp
  · by_cases h2 : n ≤ 12
    · rw [if_neg h1, if_pos h2]
      by_cases h3 : n - 1 ≤ 3
      · simp [h3]
      · simp [h3]; omega
    · by_cases h3 : n ≤ 36
      · rw [if_neg h1, if_neg h2, if_pos h3]
        by_cases h4 : n - 1 ≤ 12
        · have : ¬ n - 1 ≤ 3 := by omega
          simp [h4, this]
        · have : ¬ n - 1 ≤ 3 := by omega
          simp [h4, this]; omega
      · rw [if_neg h1, if_neg h2, if_neg h3]
        by_cases h4 : n - 1 ≤ 36
        · have h5 : ¬ n - 1 ≤ 3 := by omega
          have h6 : ¬ n - 1 ≤ 12 := by omega
          simp [h4, h5, h6]
        · have h5 : ¬ n - 1 ≤ 3 := by omega
          have h6 : ¬ n - 1 ≤ 12 := by omega
          simp [h4, h5, h6]
/-- The bytes below a number. -/
structure Fill (n : Nat) (ks : Kv Int) : Prop where
  len : ks.length = n
  has : ∀ c, c < 256 → (hasK ks c = true ↔ c < n)
theorem Fill.put {n : Nat} {ks : Kv Int} (h : Fill n ks) (hk : KS ks) (hn : n < 256) (x : Int) : Fill (n + 1) (setL ks n x) := by
  have hno : hasK ks n = false := by
    cases hq : hasK ks n with
    | false => rfl
    | true => have := (h.has n hn).1 hq; omega
  refine ⟨by rw [len_set hk, hno, h.len]; rfl, fun c hc => ?_⟩
  rw [hasK, lk_set]
  by_cases e : c = n
  · rw [if_pos e]; simp; omega
  · rw [if_neg e]
    have := h.has c hc
    rw [hasK] at this
    rw [this]; omega
theorem Fill.off {n : Nat} {ks : Kv Int} (h : Fill (n + 1) ks) (hk : KS ks) (hn : n < 256) : hasK ks n = true ∧ Fill n (delL ks n) := by
  have hyes : hasK ks n = true := (h.has n hn).2 (by omega)
  refine ⟨hyes, by rw [len_del hk, hyes, h.len]; rfl, fun c hc => ?_⟩
  rw [hasK, lk_del hk]
  by_cases e : c = n
  · rw [if_pos e]; simp; omega
  · rw [if_neg e]
    have := h.has c hc
    rw [hasK] at this
    rw [this]; omega
abbrev aB : ByteArray := { data := #[97] }
abbrev bB : ByteArray := { data := #[98] }
abbrev cB : ByteArray := { data := #[99] }

def kn0 : St ByteArray := (4, [])
def kn1 : St ByteArray := putSt kn0 7 aB
def kn2 : St ByteArray := putSt kn1 7 bB
def kn3 : St ByteArray := putSt kn2 1 xB
def kn4 : St ByteArray := putSt kn3 2 xB
def kn5 : St ByteArray := putSt kn4 3 xB
def kn6 : St ByteArray := putSt kn5 9 cB
def kn7 : St ByteArray := offSt kn6 9
def kn8 : St ByteArray := offSt kn7 9
def kn9 : St ByteArray := offSt kn8 1

set_option maxHeartbeats 16000000 in
set_option maxRecDepth 20000 in
theorem known_L {G : Ctx} (hP : G.P = Try.prog) (S : LS) : LCalls G 6 [] (fun r _ => r = .one (bv true)) S := by
  have hD : TabOK G.P D := by rw [hP]; exact hD0
  refine LCalls.enter (fn := Try.f6) (by rw [hP]; exact Try.func6) rfl rfl ?_
  repeat (first | refine LOps.nil ?_ | refine andThen_normal ?_ | refine andThen_exit ?_ | refine andThen_ret ?_ | refine inBlock_normal ?_ | refine inBlock_ret ?_ | refine inBlock_here ?_ | refine inBlock_out rfl ?_ | refine LWp.seq ?_ | refine LWp.region ?_ | refine LWp.block ?_ | refine LWp.exit ?_ | refine LWp.ret ?_ | refine LWp.skip ?_ | refine LOps.valA ?_ | refine LOps.outA ?_ | refine LOps.whenA ?_ | refine LOps.pickA ?_ | refine LOps.storeA ?_)
  refine LOps.do (LDo.callF (newT_L hP _) (by rw [hP]; exact Try.func22)) rfl rfl rfl ?_
  rintro _ S0 ⟨b, F0, rfl, le0, new0, h0⟩
  have hO : OwnT S S0 F0 b kn0.1 kn0.2 := ⟨le0, new0, h0⟩
  clear le0 new0 h0
  repeat (first | refine LOps.nil ?_ | refine andThen_normal ?_ | refine andThen_exit ?_ | refine andThen_ret ?_ | refine inBlock_normal ?_ | refine inBlock_ret ?_ | refine inBlock_here ?_ | refine inBlock_out rfl ?_ | refine LWp.seq ?_ | refine LWp.region ?_ | refine LWp.block ?_ | refine LWp.exit ?_ | refine LWp.ret ?_ | refine LWp.skip ?_ | refine LOps.valA ?_ | refine LOps.outA ?_ | refine LOps.whenA ?_ | refine LOps.pickA ?_ | refine LOps.storeA ?_)
  have hk := nodeT_kind hP hO.node
  rw [show kn0.1 = 4 by kernel_rfl] at hk
  refine LOps.valG (r := .one (iv 4)) (LVal.callS hk (by rw [hP]; exact Try.func23) rfl rfl rfl (by decide)) rfl rfl rfl ?_
  clear hk
  refine LOps.valG (r := .one (bv true)) (LVal.to (LVal.binOp hD rfl rfl rfl rfl) rfl) rfl rfl rfl ?_
  refine LOps.valG (r := .one (bv true)) (LVal.to (LVal.move (.inl rfl)) rfl) rfl rfl rfl ?_
  refine LOps.valG (r := ptr b) (LVal.to (LVal.move (.inl rfl)) rfl) rfl rfl rfl ?_
  refine LOps.do (LDo.callF (setT_L hP hO.node (c := 7) (by decide) aB) (by rw [hP]; exact Try.func24)) rfl rfl rfl ?_
  rintro _ S1 ⟨rfl, F1, h1, m1⟩
  rw [show (!hasK kn0.2 7) = true by kernel_rfl]
  replace hO : OwnT S S1 F1 b kn1.1 kn1.2 := hO.next h1 m1
  clear h1 m1
  refine LOps.valG (r := .one (bv true)) (LVal.to (LVal.pick rfl rfl) rfl) rfl rfl rfl ?_
  refine LOps.valG (r := .one (bv true)) (LVal.to (LVal.move (.inl rfl)) rfl) rfl rfl rfl ?_
  refine LOps.valG (r := ptr b) (LVal.to (LVal.move (.inl rfl)) rfl) rfl rfl rfl ?_
  refine LOps.do (LDo.callF (setT_L hP hO.node (c := 7) (by decide) bB) (by rw [hP]; exact Try.func24)) rfl rfl rfl ?_
  rintro _ S2 ⟨rfl, F2, h2, m2⟩
  rw [show (!hasK kn1.2 7) = false by kernel_rfl]
  replace hO : OwnT S S2 F2 b kn2.1 kn2.2 := hO.next h2 m2
  clear h2 m2
  refine LOps.valG (r := .one (bv true)) (LVal.to (LVal.unOp rfl rfl rfl) rfl) rfl rfl rfl ?_
  refine LOps.valG (r := .one (bv true)) (LVal.to (LVal.pick rfl rfl) rfl) rfl rfl rfl ?_
  refine LOps.valG (r := .one (bv true)) (LVal.to (LVal.move (.inl rfl)) rfl) rfl rfl rfl ?_
  refine LOps.valG (r := ptr b) (LVal.to (LVal.move (.inl rfl)) rfl) rfl rfl rfl ?_
  have hk := nodeT_len hP hO.node
  rw [show kn2.2.length = 1 by kernel_rfl] at hk
  refine LOps.valG (r := .one (iv 1)) (LVal.callS hk (by rw [hP]; exact Try.func25) rfl rfl rfl (by decide)) rfl rfl rfl ?_
  clear hk
  refine LOps.valG (r := .one (bv true)) (LVal.to (LVal.binOp hD rfl rfl rfl rfl) rfl) rfl rfl rfl ?_
  refine LOps.valG (r := .one (bv true)) (LVal.to (LVal.pick rfl rfl) rfl) rfl rfl rfl ?_
  refine LOps.valG (r := .one (bv true)) (LVal.to (LVal.move (.inr rfl)) rfl) rfl rfl rfl ?_
  refine LOps.nil ?_
  refine andThen_normal ?_
  refine LWp.seq ?_
  refine LWp.region ?_
  refine LOps.valG (r := ptr b) (LVal.to (LVal.move (.inl rfl)) rfl) rfl rfl rfl ?_
  have hk := nodeT_get hP hO.node (c := 7) (by decide)
  rw [show getT kn2.2 7 = .tup [.one (sv bB), .one (bv true)] by kernel_rfl] at hk
  refine LOps.valG (r := .tup [.one (sv bB), .one (bv true)]) (LVal.callS hk (by rw [hP]; exact Try.func26) rfl rfl rfl (by decide)) rfl rfl rfl ?_
  clear hk
  refine LOps.valG (r := .tup [.one (sv bB), .one (bv true)]) (LVal.to (LVal.move (.inl rfl)) rfl) rfl rfl rfl ?_
  refine LOps.valG (r := .one (sv bB)) (LVal.to (LVal.extract rfl rfl rfl) rfl) rfl rfl rfl ?_
  refine LOps.valG (r := .one (bv true)) (LVal.to (LVal.extract rfl rfl rfl) rfl) rfl rfl rfl ?_
  refine LOps.valG (r := .one (sv bB)) (LVal.to (LVal.move (.inr rfl)) rfl) rfl rfl rfl ?_
  refine LOps.valG (r := .one (bv true)) (LVal.to (LVal.move (.inr rfl)) rfl) rfl rfl rfl ?_
  refine LOps.nil ?_
  refine andThen_normal ?_
  refine LWp.seq ?_
  refine LWp.region ?_
  refine LOps.valG (r := ptr b) (LVal.to (LVal.move (.inl rfl)) rfl) rfl rfl rfl ?_
  refine LOps.do (LDo.callF (setT_L hP hO.node (c := 1) (by decide) xB) (by rw [hP]; exact Try.func24)) rfl rfl rfl ?_
  rintro _ S3 ⟨rfl, F3, h3, m3⟩
  rw [show (!hasK kn2.2 1) = true by kernel_rfl]
  replace hO : OwnT S S3 F3 b kn3.1 kn3.2 := hO.next h3 m3
  clear h3 m3
  refine LOps.nil ?_
  refine andThen_normal ?_
  refine LWp.seq ?_
  refine LWp.region ?_
  refine LOps.valG (r := ptr b) (LVal.to (LVal.move (.inl rfl)) rfl) rfl rfl rfl ?_
  refine LOps.do (LDo.callF (setT_L hP hO.node (c := 2) (by decide) xB) (by rw [hP]; exact Try.func24)) rfl rfl rfl ?_
  rintro _ S4 ⟨rfl, F4, h4, m4⟩
  rw [show (!hasK kn3.2 2) = true by kernel_rfl]
  replace hO : OwnT S S4 F4 b kn4.1 kn4.2 := hO.next h4 m4
  clear h4 m4
  refine LOps.nil ?_
  refine andThen_normal ?_
  refine LWp.seq ?_
  refine LWp.region ?_
  refine LOps.valG (r := ptr b) (LVal.to (LVal.move (.inl rfl)) rfl) rfl rfl rfl ?_
  refine LOps.do (LDo.callF (setT_L hP hO.node (c := 3) (by decide) xB) (by rw [hP]; exact Try.func24)) rfl rfl rfl ?_
  rintro _ S5 ⟨rfl, F5, h5, m5⟩
  rw [show (!hasK kn4.2 3) = true by kernel_rfl]
  replace hO : OwnT S S5 F5 b kn5.1 kn5.2 := hO.next h5 m5
  clear h5 m5
  refine LOps.nil ?_
  refine andThen_normal ?_
  refine LWp.seq ?_
  refine LWp.region ?_
  refine LOps.valG (r := ptr b) (LVal.to (LVal.move (.inl rfl)) rfl) rfl rfl rfl ?_
  have hk := nodeT_kind hP hO.node
  rw [show kn5.1 = 4 by kernel_rfl] at hk
  refine LOps.valG (r := .one (iv 4)) (LVal.callS hk (by rw [hP]; exact Try.func23) rfl rfl rfl (by decide)) rfl rfl rfl ?_
  clear hk
  refine LOps.valG (r := .one (bv true)) (LVal.to (LVal.binOp hD rfl rfl rfl rfl) rfl) rfl rfl rfl ?_
  refine LOps.valG (r := .one (bv true)) (LVal.to (LVal.move (.inr rfl)) rfl) rfl rfl rfl ?_
  refine LOps.nil ?_
  refine andThen_normal ?_
  refine LWp.seq ?_
  refine LWp.region ?_
  refine LOps.valG (r := ptr b) (LVal.to (LVal.move (.inl rfl)) rfl) rfl rfl rfl ?_
  refine LOps.do (LDo.callF (setT_L hP hO.node (c := 9) (by decide) cB) (by rw [hP]; exact Try.func24)) rfl rfl rfl ?_
  rintro _ S6 ⟨rfl, F6, h6, m6⟩
  rw [show (!hasK kn5.2 9) = true by kernel_rfl]
  replace hO : OwnT S S6 F6 b kn6.1 kn6.2 := hO.next h6 m6
  clear h6 m6
  refine LOps.nil ?_
  refine andThen_normal ?_
  refine LWp.seq ?_
  refine LWp.region ?_
  refine LOps.valG (r := ptr b) (LVal.to (LVal.move (.inl rfl)) rfl) rfl rfl rfl ?_
  have hk := nodeT_from hP hO.node (4)
  rw [show fromT (fromL kn6.2 (4)) = .tup [.one (uv 7), .one (sv bB), .one (bv true)] by kernel_rfl] at hk
  refine LOps.valG (r := .tup [.one (uv 7), .one (sv bB), .one (bv true)]) (LVal.callS hk (by rw [hP]; exact Try.func27) rfl rfl rfl (by decide)) rfl rfl rfl ?_
  clear hk
  refine LOps.valG (r := .tup [.one (uv 7), .one (sv bB), .one (bv true)]) (LVal.to (LVal.move (.inl rfl)) rfl) rfl rfl rfl ?_
  refine LOps.valG (r := .one (uv 7)) (LVal.to (LVal.extract rfl rfl rfl) rfl) rfl rfl rfl ?_
  refine LOps.valG (r := .one (sv bB)) (LVal.to (LVal.extract rfl rfl rfl) rfl) rfl rfl rfl ?_
  refine LOps.valG (r := .one (bv true)) (LVal.to (LVal.extract rfl rfl rfl) rfl) rfl rfl rfl ?_
  refine LOps.valG (r := .one (uv 7)) (LVal.to (LVal.move (.inr rfl)) rfl) rfl rfl rfl ?_
  refine LOps.valG (r := .one (sv bB)) (LVal.to (LVal.move (.inr rfl)) rfl) rfl rfl rfl ?_
  refine LOps.valG (r := .one (bv true)) (LVal.to (LVal.move (.inr rfl)) rfl) rfl rfl rfl ?_
  refine LOps.nil ?_
  refine andThen_normal ?_
  refine LWp.seq ?_
  refine LWp.region ?_
  refine LOps.valG (r := ptr b) (LVal.to (LVal.move (.inl rfl)) rfl) rfl rfl rfl ?_
  have hk := nodeT_from hP hO.node (10)
  rw [show fromT (fromL kn6.2 (10)) = .tup [.one (uv 0), .one (sv noBytes), .one (bv false)] by kernel_rfl] at hk
  refine LOps.valG (r := .tup [.one (uv 0), .one (sv noBytes), .one (bv false)]) (LVal.callS hk (by rw [hP]; exact Try.func27) rfl rfl rfl (by decide)) rfl rfl rfl ?_
  clear hk
  refine LOps.valG (r := .tup [.one (uv 0), .one (sv noBytes), .one (bv false)]) (LVal.to (LVal.move (.inl rfl)) rfl) rfl rfl rfl ?_
  refine LOps.valG (r := .one (uv 0)) (LVal.to (LVal.extract rfl rfl rfl) rfl) rfl rfl rfl ?_
  refine LOps.valG (r := .one (sv noBytes)) (LVal.to (LVal.extract rfl rfl rfl) rfl) rfl rfl rfl ?_
  refine LOps.valG (r := .one (bv false)) (LVal.to (LVal.extract rfl rfl rfl) rfl) rfl rfl rfl ?_
  refine LOps.valG (r := .one (uv 0)) (LVal.to (LVal.move (.inr rfl)) rfl) rfl rfl rfl ?_
  refine LOps.valG (r := .one (sv noBytes)) (LVal.to (LVal.move (.inr rfl)) rfl) rfl rfl rfl ?_
  refine LOps.valG (r := .one (bv false)) (LVal.to (LVal.move (.inr rfl)) rfl) rfl rfl rfl ?_
  refine LOps.nil ?_
  refine andThen_normal ?_
  refine LWp.seq ?_
  refine LWp.region ?_
  refine LOps.valG (r := ptr b) (LVal.to (LVal.move (.inl rfl)) rfl) rfl rfl rfl ?_
  have hk := nodeT_from hP hO.node (-5)
  rw [show fromT (fromL kn6.2 (-5)) = .tup [.one (uv 1), .one (sv xB), .one (bv true)] by kernel_rfl] at hk
  refine LOps.valG (r := .tup [.one (uv 1), .one (sv xB), .one (bv true)]) (LVal.callS hk (by rw [hP]; exact Try.func27) rfl rfl rfl (by decide)) rfl rfl rfl ?_
  clear hk
  refine LOps.valG (r := .tup [.one (uv 1), .one (sv xB), .one (bv true)]) (LVal.to (LVal.move (.inl rfl)) rfl) rfl rfl rfl ?_
  refine LOps.valG (r := .one (uv 1)) (LVal.to (LVal.extract rfl rfl rfl) rfl) rfl rfl rfl ?_
  refine LOps.valG (r := .one (sv xB)) (LVal.to (LVal.extract rfl rfl rfl) rfl) rfl rfl rfl ?_
  refine LOps.valG (r := .one (bv true)) (LVal.to (LVal.extract rfl rfl rfl) rfl) rfl rfl rfl ?_
  refine LOps.valG (r := .one (uv 1)) (LVal.to (LVal.move (.inr rfl)) rfl) rfl rfl rfl ?_
  refine LOps.valG (r := .one (sv xB)) (LVal.to (LVal.move (.inr rfl)) rfl) rfl rfl rfl ?_
  refine LOps.valG (r := .one (bv true)) (LVal.to (LVal.move (.inr rfl)) rfl) rfl rfl rfl ?_
  refine LOps.nil ?_
  refine andThen_normal ?_
  refine LWp.seq ?_
  refine LWp.region ?_
  refine LOps.valG (r := ptr b) (LVal.to (LVal.move (.inl rfl)) rfl) rfl rfl rfl ?_
  have hk := nodeT_kind hP hO.node
  rw [show kn6.1 = 16 by kernel_rfl] at hk
  refine LOps.valG (r := .one (iv 16)) (LVal.callS hk (by rw [hP]; exact Try.func23) rfl rfl rfl (by decide)) rfl rfl rfl ?_
  clear hk
  refine LOps.valG (r := .one (bv true)) (LVal.to (LVal.binOp hD rfl rfl rfl rfl) rfl) rfl rfl rfl ?_
  refine LOps.valG (r := .one (bv true)) (LVal.to (LVal.move (.inl rfl)) rfl) rfl rfl rfl ?_
  refine LOps.valG (r := .one (uv 7)) (LVal.to (LVal.move (.inl rfl)) rfl) rfl rfl rfl ?_
  refine LOps.valG (r := .one (bv true)) (LVal.to (LVal.binOp hD rfl rfl rfl rfl) rfl) rfl rfl rfl ?_
  refine LOps.valG (r := .one (bv true)) (LVal.to (LVal.pick rfl rfl) rfl) rfl rfl rfl ?_
  refine LOps.valG (r := .one (bv true)) (LVal.to (LVal.move (.inl rfl)) rfl) rfl rfl rfl ?_
  refine LOps.valG (r := .one (sv bB)) (LVal.to (LVal.move (.inl rfl)) rfl) rfl rfl rfl ?_
  refine LOps.valG (r := .one (bv true)) (LVal.to (LVal.eqStr rfl rfl rfl) (by rw [decide_eq_true rfl])) rfl rfl rfl ?_
  refine LOps.valG (r := .one (bv true)) (LVal.to (LVal.pick rfl rfl) rfl) rfl rfl rfl ?_
  refine LOps.valG (r := .one (bv true)) (LVal.to (LVal.move (.inl rfl)) rfl) rfl rfl rfl ?_
  refine LOps.valG (r := .one (bv true)) (LVal.to (LVal.move (.inl rfl)) rfl) rfl rfl rfl ?_
  refine LOps.valG (r := .one (bv true)) (LVal.to (LVal.pick rfl rfl) rfl) rfl rfl rfl ?_
  refine LOps.valG (r := .one (bv true)) (LVal.to (LVal.move (.inl rfl)) rfl) rfl rfl rfl ?_
  refine LOps.valG (r := .one (bv false)) (LVal.to (LVal.move (.inl rfl)) rfl) rfl rfl rfl ?_
  refine LOps.valG (r := .one (bv true)) (LVal.to (LVal.unOp rfl rfl rfl) rfl) rfl rfl rfl ?_
  refine LOps.valG (r := .one (bv true)) (LVal.to (LVal.pick rfl rfl) rfl) rfl rfl rfl ?_
  refine LOps.valG (r := .one (bv true)) (LVal.to (LVal.move (.inl rfl)) rfl) rfl rfl rfl ?_
  refine LOps.valG (r := .one (uv 1)) (LVal.to (LVal.move (.inl rfl)) rfl) rfl rfl rfl ?_
  refine LOps.valG (r := .one (bv true)) (LVal.to (LVal.binOp hD rfl rfl rfl rfl) rfl) rfl rfl rfl ?_
  refine LOps.valG (r := .one (bv true)) (LVal.to (LVal.pick rfl rfl) rfl) rfl rfl rfl ?_
  refine LOps.valG (r := .one (bv true)) (LVal.to (LVal.move (.inr rfl)) rfl) rfl rfl rfl ?_
  refine LOps.nil ?_
  refine andThen_normal ?_
  refine LWp.seq ?_
  refine LWp.region ?_
  refine LOps.valG (r := ptr b) (LVal.to (LVal.move (.inl rfl)) rfl) rfl rfl rfl ?_
  refine LOps.do (LDo.callF (dropT_L hP hO.node (c := 9) (by decide)) (by rw [hP]; exact Try.func28)) rfl rfl rfl ?_
  rintro _ S7 ⟨rfl, F7, h7, m7⟩
  rw [show hasK kn6.2 9 = true by kernel_rfl]
  replace hO : OwnT S S7 F7 b kn7.1 kn7.2 := hO.next h7 m7
  clear h7 m7
  refine LOps.valG (r := .one (bv true)) (LVal.to (LVal.move (.inl rfl)) rfl) rfl rfl rfl ?_
  refine LOps.valG (r := ptr b) (LVal.to (LVal.move (.inl rfl)) rfl) rfl rfl rfl ?_
  refine LOps.do (LDo.callF (dropT_L hP hO.node (c := 9) (by decide)) (by rw [hP]; exact Try.func28)) rfl rfl rfl ?_
  rintro _ S8 ⟨rfl, F8, h8, m8⟩
  rw [show hasK kn7.2 9 = false by kernel_rfl]
  replace hO : OwnT S S8 F8 b kn8.1 kn8.2 := hO.next h8 m8
  clear h8 m8
  refine LOps.valG (r := .one (bv true)) (LVal.to (LVal.unOp rfl rfl rfl) rfl) rfl rfl rfl ?_
  refine LOps.valG (r := .one (bv true)) (LVal.to (LVal.pick rfl rfl) rfl) rfl rfl rfl ?_
  refine LOps.valG (r := .one (bv true)) (LVal.to (LVal.move (.inl rfl)) rfl) rfl rfl rfl ?_
  refine LOps.valG (r := ptr b) (LVal.to (LVal.move (.inl rfl)) rfl) rfl rfl rfl ?_
  have hk := nodeT_kind hP hO.node
  rw [show kn8.1 = 16 by kernel_rfl] at hk
  refine LOps.valG (r := .one (iv 16)) (LVal.callS hk (by rw [hP]; exact Try.func23) rfl rfl rfl (by decide)) rfl rfl rfl ?_
  clear hk
  refine LOps.valG (r := .one (bv true)) (LVal.to (LVal.binOp hD rfl rfl rfl rfl) rfl) rfl rfl rfl ?_
  refine LOps.valG (r := .one (bv true)) (LVal.to (LVal.pick rfl rfl) rfl) rfl rfl rfl ?_
  refine LOps.valG (r := .one (bv true)) (LVal.to (LVal.move (.inl rfl)) rfl) rfl rfl rfl ?_
  refine LOps.valG (r := ptr b) (LVal.to (LVal.move (.inl rfl)) rfl) rfl rfl rfl ?_
  refine LOps.do (LDo.callF (dropT_L hP hO.node (c := 1) (by decide)) (by rw [hP]; exact Try.func28)) rfl rfl rfl ?_
  rintro _ S9 ⟨rfl, F9, h9, m9⟩
  rw [show hasK kn8.2 1 = true by kernel_rfl]
  replace hO : OwnT S S9 F9 b kn9.1 kn9.2 := hO.next h9 m9
  clear h9 m9
  refine LOps.valG (r := .one (bv true)) (LVal.to (LVal.pick rfl rfl) rfl) rfl rfl rfl ?_
  refine LOps.valG (r := .one (bv true)) (LVal.to (LVal.move (.inl rfl)) rfl) rfl rfl rfl ?_
  refine LOps.valG (r := ptr b) (LVal.to (LVal.move (.inl rfl)) rfl) rfl rfl rfl ?_
  have hk := nodeT_kind hP hO.node
  rw [show kn9.1 = 4 by kernel_rfl] at hk
  refine LOps.valG (r := .one (iv 4)) (LVal.callS hk (by rw [hP]; exact Try.func23) rfl rfl rfl (by decide)) rfl rfl rfl ?_
  clear hk
  refine LOps.valG (r := .one (bv true)) (LVal.to (LVal.binOp hD rfl rfl rfl rfl) rfl) rfl rfl rfl ?_
  refine LOps.valG (r := .one (bv true)) (LVal.to (LVal.pick rfl rfl) rfl) rfl rfl rfl ?_
  refine LOps.valG (r := .one (bv true)) (LVal.to (LVal.move (.inr rfl)) rfl) rfl rfl rfl ?_
  refine LOps.nil ?_
  refine andThen_normal ?_
  refine LWp.seq ?_
  refine LWp.region ?_
  refine LOps.do (LDo.callF (newI_L hP _) (by rw [hP]; exact Try.func9)) rfl rfl rfl ?_
  rintro _ S10 ⟨e, E, rfl, le1, new1, h1⟩
  refine LOps.valG (r := ptr e) (LVal.to (LVal.move (.inr rfl)) rfl) rfl rfl rfl ?_
  refine LOps.nil ?_
  refine andThen_normal ?_
  clear hO
  refine LWp.seq (LWp.cut 15 (fun T1 S1 => ∃ (T2 : Nat → TV) (E : Nat → Prop) (ks : Kv Int), OwnI S9 S1 E e (kindUp ks.length) ks ∧ Fill 256 ks ∧ T1 = over T2 [(2, .one (bv true)), (3, .one (sv bB)), (4, .one (bv true)), (5, .one (bv true)), (15, .one (bv true)), (16, .one (bv true)), (17, ptr e)]) rfl ?_ ?_)
  · repeat (first | refine LOps.nil ?_ | refine andThen_normal ?_ | refine andThen_exit ?_ | refine andThen_ret ?_ | refine inBlock_normal ?_ | refine inBlock_ret ?_ | refine inBlock_here ?_ | refine inBlock_out rfl ?_ | refine LWp.seq ?_ | refine LWp.region ?_ | refine LWp.block ?_ | refine LWp.exit ?_ | refine LWp.ret ?_ | refine LWp.skip ?_ | refine LOps.valA ?_ | refine LOps.outA ?_ | refine LOps.whenA ?_ | refine LOps.pickA ?_ | refine LOps.storeA ?_)
    refine LWp.loop (fun m T S' => ∃ (T' : Nat → TV) (j : Nat) (E : Nat → Prop) (ks : Kv Int), j ≤ 256 ∧ m = 256 - j ∧ OwnI S9 S' E e (kindUp ks.length) ks ∧ Fill j ks ∧ T = over T' [(2, .one (bv true)), (3, .one (sv bB)), (4, .one (bv true)), (5, .one (bv true)), (15, .one (bv true)), (16, .one (bv true)), (17, ptr e), (18, .one (iv (j : Nat)))]) 256 ?_ ?_
    · exact ⟨_, 0, E, [], by omega, rfl, ⟨le1, new1, h1⟩, ⟨rfl, fun c _ => by simp [hasK, lk]⟩, holds.over ⟨rfl, rfl, rfl, rfl, rfl, rfl, rfl, rfl, trivial⟩⟩
    clear le1 new1 h1 E S10
    rintro m T S1 ⟨T', j, E, ks, hj, rfl, hO, hf, rfl⟩
    repeat (first | refine LOps.nil ?_ | refine andThen_normal ?_ | refine andThen_exit ?_ | refine andThen_ret ?_ | refine inBlock_normal ?_ | refine inBlock_ret ?_ | refine inBlock_here ?_ | refine inBlock_out rfl ?_ | refine LWp.seq ?_ | refine LWp.region ?_ | refine LWp.block ?_ | refine LWp.exit ?_ | refine LWp.ret ?_ | refine LWp.skip ?_ | refine LOps.valA ?_ | refine LOps.outA ?_ | refine LOps.whenA ?_ | refine LOps.pickA ?_ | refine LOps.storeA ?_)
    refine LWp.cond rfl (fun h => ?_) (fun h => ?_)
    · have hlt : j < 256 := by have h : decide ((j : Int) < 256) = true := h; simp at h; omega
      repeat (first | refine LOps.valH (r := .one (uv (j : Nat))) (LVal.to (LVal.convInt hD rfl rfl rfl rfl rfl) (by rw [lt_wrap8I (n := j) hlt])) ?_ | refine LOps.nil ?_ | refine andThen_normal ?_ | refine andThen_exit ?_ | refine andThen_ret ?_ | refine inBlock_normal ?_ | refine inBlock_ret ?_ | refine inBlock_here ?_ | refine inBlock_out rfl ?_ | refine LWp.seq ?_ | refine LWp.region ?_ | refine LWp.block ?_ | refine LWp.exit ?_ | refine LWp.ret ?_ | refine LWp.skip ?_ | refine LOps.valA ?_ | refine LOps.outA ?_ | refine LOps.whenA ?_ | refine LOps.pickA ?_ | refine LOps.storeA ?_)
      refine LOps.do (LDo.callF (setI_L hP hO.node hlt (j : Int)) (by rw [hP]; exact Try.func11)) rfl rfl rfl ?_
      rintro _ S2 ⟨rfl, E2, h2, m2⟩
      rw [kindUp_set hO.node.ok.ks hlt (j : Int)] at h2
      have hf2 := hf.put hO.node.ok.ks hlt (j : Int)
      replace hO := hO.next h2 m2
      clear h2 m2 hf
      generalize setL ks j (j : Int) = ms at hO hf2
      have hk := nodeI_kind hP hO.node
      rw [hf2.len] at hk
      repeat (first | refine LWp.seq (LWp.cut 20 (fun T1 S3 => S3 = S2 ∧ ∃ (T2 : Nat → TV), T1 = over T2 [(2, .one (bv true)), (3, .one (sv bB)), (4, .one (bv true)), (5, .one (bv true)), (15, .one (bv true)), (16, .one (bv true)), (17, ptr e), (18, .one (iv (j : Nat))), (19, .one (iv (if j < 48 then 48 else 256 : Nat)))]) rfl ?_ ?_) | refine LOps.nil ?_ | refine andThen_normal ?_ | refine andThen_exit ?_ | refine andThen_ret ?_ | refine inBlock_normal ?_ | refine inBlock_ret ?_ | refine inBlock_here ?_ | refine inBlock_out rfl ?_ | refine LWp.seq ?_ | refine LWp.region ?_ | refine LWp.block ?_ | refine LWp.exit ?_ | refine LWp.ret ?_ | refine LWp.skip ?_ | refine LOps.valA ?_ | refine LOps.outA ?_ | refine LOps.whenA ?_ | refine LOps.pickA ?_ | refine LOps.storeA ?_)
      · repeat (first | refine LOps.nil ?_ | refine andThen_normal ?_ | refine andThen_exit ?_ | refine andThen_ret ?_ | refine inBlock_normal ?_ | refine inBlock_ret ?_ | refine inBlock_here ?_ | refine inBlock_out rfl ?_ | refine LWp.seq ?_ | refine LWp.region ?_ | refine LWp.block ?_ | refine LWp.exit ?_ | refine LWp.ret ?_ | refine LWp.skip ?_ | refine LOps.valA ?_ | refine LOps.outA ?_ | refine LOps.whenA ?_ | refine LOps.pickA ?_ | refine LOps.storeA ?_)
        refine LWp.cond rfl (fun h => ?_) (fun h => ?_)
        · have h : decide ((j : Int) < 48) = true := h
          have h5 : j < 48 := by simp at h; omega
          repeat (first | refine LOps.nil ?_ | refine andThen_normal ?_ | refine andThen_exit ?_ | refine andThen_ret ?_ | refine inBlock_normal ?_ | refine inBlock_ret ?_ | refine inBlock_here ?_ | refine inBlock_out rfl ?_ | refine LWp.seq ?_ | refine LWp.region ?_ | refine LWp.block ?_ | refine LWp.exit ?_ | refine LWp.ret ?_ | refine LWp.skip ?_ | refine LOps.valA ?_ | refine LOps.outA ?_ | refine LOps.whenA ?_ | refine LOps.pickA ?_ | refine LOps.storeA ?_)
          exact ⟨rfl, _, holds.over ⟨rfl, rfl, rfl, rfl, rfl, rfl, rfl, rfl, by rw [if_pos h5]; rfl, trivial⟩⟩
        · have h : decide ((j : Int) < 48) = false := h
          have h5 : ¬ j < 48 := by simp at h; omega
          repeat (first | refine LOps.nil ?_ | refine andThen_normal ?_ | refine andThen_exit ?_ | refine andThen_ret ?_ | refine inBlock_normal ?_ | refine inBlock_ret ?_ | refine inBlock_here ?_ | refine inBlock_out rfl ?_ | refine LWp.seq ?_ | refine LWp.region ?_ | refine LWp.block ?_ | refine LWp.exit ?_ | refine LWp.ret ?_ | refine LWp.skip ?_ | refine LOps.valA ?_ | refine LOps.outA ?_ | refine LOps.whenA ?_ | refine LOps.pickA ?_ | refine LOps.storeA ?_)
          exact ⟨rfl, _, holds.over ⟨rfl, rfl, rfl, rfl, rfl, rfl, rfl, rfl, by rw [if_neg h5]; rfl, trivial⟩⟩
      rintro T1 S2 ⟨rfl, T3, rfl⟩
      repeat (first | refine LWp.seq (LWp.cut 22 (fun T1 S3 => S3 = S2 ∧ ∃ (T2 : Nat → TV), T1 = over T2 [(2, .one (bv true)), (3, .one (sv bB)), (4, .one (bv true)), (5, .one (bv true)), (15, .one (bv true)), (16, .one (bv true)), (17, ptr e), (18, .one (iv (j : Nat))), (19, .one (iv (if j < 16 then 16 else if j < 48 then 48 else 256 : Nat)))]) rfl ?_ ?_) | refine LOps.nil ?_ | refine andThen_normal ?_ | refine andThen_exit ?_ | refine andThen_ret ?_ | refine inBlock_normal ?_ | refine inBlock_ret ?_ | refine inBlock_here ?_ | refine inBlock_out rfl ?_ | refine LWp.seq ?_ | refine LWp.region ?_ | refine LWp.block ?_ | refine LWp.exit ?_ | refine LWp.ret ?_ | refine LWp.skip ?_ | refine LOps.valA ?_ | refine LOps.outA ?_ | refine LOps.whenA ?_ | refine LOps.pickA ?_ | refine LOps.storeA ?_)
      · repeat (first | refine LOps.nil ?_ | refine andThen_normal ?_ | refine andThen_exit ?_ | refine andThen_ret ?_ | refine inBlock_normal ?_ | refine inBlock_ret ?_ | refine inBlock_here ?_ | refine inBlock_out rfl ?_ | refine LWp.seq ?_ | refine LWp.region ?_ | refine LWp.block ?_ | refine LWp.exit ?_ | refine LWp.ret ?_ | refine LWp.skip ?_ | refine LOps.valA ?_ | refine LOps.outA ?_ | refine LOps.whenA ?_ | refine LOps.pickA ?_ | refine LOps.storeA ?_)
        refine LWp.cond rfl (fun h => ?_) (fun h => ?_)
        · have h : decide ((j : Int) < 16) = true := h
          have h5 : j < 16 := by simp at h; omega
          repeat (first | refine LOps.nil ?_ | refine andThen_normal ?_ | refine andThen_exit ?_ | refine andThen_ret ?_ | refine inBlock_normal ?_ | refine inBlock_ret ?_ | refine inBlock_here ?_ | refine inBlock_out rfl ?_ | refine LWp.seq ?_ | refine LWp.region ?_ | refine LWp.block ?_ | refine LWp.exit ?_ | refine LWp.ret ?_ | refine LWp.skip ?_ | refine LOps.valA ?_ | refine LOps.outA ?_ | refine LOps.whenA ?_ | refine LOps.pickA ?_ | refine LOps.storeA ?_)
          exact ⟨rfl, _, holds.over ⟨rfl, rfl, rfl, rfl, rfl, rfl, rfl, rfl, by rw [if_pos h5]; rfl, trivial⟩⟩
        · have h : decide ((j : Int) < 16) = false := h
          have h5 : ¬ j < 16 := by simp at h; omega
          repeat (first | refine LOps.nil ?_ | refine andThen_normal ?_ | refine andThen_exit ?_ | refine andThen_ret ?_ | refine inBlock_normal ?_ | refine inBlock_ret ?_ | refine inBlock_here ?_ | refine inBlock_out rfl ?_ | refine LWp.seq ?_ | refine LWp.region ?_ | refine LWp.block ?_ | refine LWp.exit ?_ | refine LWp.ret ?_ | refine LWp.skip ?_ | refine LOps.valA ?_ | refine LOps.outA ?_ | refine LOps.whenA ?_ | refine LOps.pickA ?_ | refine LOps.storeA ?_)
          exact ⟨rfl, _, holds.over ⟨rfl, rfl, rfl, rfl, rfl, rfl, rfl, rfl, by rw [if_neg h5]; rfl, trivial⟩⟩
      rintro T1 S2 ⟨rfl, T4, rfl⟩
      repeat (first | refine LWp.seq (LWp.cut 24 (fun T1 S3 => S3 = S2 ∧ ∃ (T2 : Nat → TV), T1 = over T2 [(2, .one (bv true)), (3, .one (sv bB)), (4, .one (bv true)), (5, .one (bv true)), (15, .one (bv true)), (16, .one (bv true)), (17, ptr e), (18, .one (iv (j : Nat))), (19, .one (iv (kindUp (j + 1) : Nat)))]) rfl ?_ ?_) | refine LOps.nil ?_ | refine andThen_normal ?_ | refine andThen_exit ?_ | refine andThen_ret ?_ | refine inBlock_normal ?_ | refine inBlock_ret ?_ | refine inBlock_here ?_ | refine inBlock_out rfl ?_ | refine LWp.seq ?_ | refine LWp.region ?_ | refine LWp.block ?_ | refine LWp.exit ?_ | refine LWp.ret ?_ | refine LWp.skip ?_ | refine LOps.valA ?_ | refine LOps.outA ?_ | refine LOps.whenA ?_ | refine LOps.pickA ?_ | refine LOps.storeA ?_)
      · repeat (first | refine LOps.nil ?_ | refine andThen_normal ?_ | refine andThen_exit ?_ | refine andThen_ret ?_ | refine inBlock_normal ?_ | refine inBlock_ret ?_ | refine inBlock_here ?_ | refine inBlock_out rfl ?_ | refine LWp.seq ?_ | refine LWp.region ?_ | refine LWp.block ?_ | refine LWp.exit ?_ | refine LWp.ret ?_ | refine LWp.skip ?_ | refine LOps.valA ?_ | refine LOps.outA ?_ | refine LOps.whenA ?_ | refine LOps.pickA ?_ | refine LOps.storeA ?_)
        refine LWp.cond rfl (fun h => ?_) (fun h => ?_)
        · have h : decide ((j : Int) < 4) = true := h
          have h5 : j < 4 := by simp at h; omega
          have h6 : kindUp (j + 1) = 4 := by unfold kindUp; rw [if_pos (by omega)]
          repeat (first | refine LOps.nil ?_ | refine andThen_normal ?_ | refine andThen_exit ?_ | refine andThen_ret ?_ | refine inBlock_normal ?_ | refine inBlock_ret ?_ | refine inBlock_here ?_ | refine inBlock_out rfl ?_ | refine LWp.seq ?_ | refine LWp.region ?_ | refine LWp.block ?_ | refine LWp.exit ?_ | refine LWp.ret ?_ | refine LWp.skip ?_ | refine LOps.valA ?_ | refine LOps.outA ?_ | refine LOps.whenA ?_ | refine LOps.pickA ?_ | refine LOps.storeA ?_)
          exact ⟨rfl, _, holds.over ⟨rfl, rfl, rfl, rfl, rfl, rfl, rfl, rfl, by rw [h6]; rfl, trivial⟩⟩
        · have h : decide ((j : Int) < 4) = false := h
          have h5 : ¬ j < 4 := by simp at h; omega
          have h6 : kindUp (j + 1) = if j < 16 then 16 else if j < 48 then 48 else 256 := by
            unfold kindUp
            rw [if_neg (by omega)]
            by_cases h7 : j < 16
            · rw [if_pos h7, if_pos (by omega)]
            · rw [if_neg h7, if_neg (by omega)]
              by_cases h8 : j < 48
              · rw [if_pos h8, if_pos (by omega)]
              · rw [if_neg h8, if_neg (by omega)]
          repeat (first | refine LOps.nil ?_ | refine andThen_normal ?_ | refine andThen_exit ?_ | refine andThen_ret ?_ | refine inBlock_normal ?_ | refine inBlock_ret ?_ | refine inBlock_here ?_ | refine inBlock_out rfl ?_ | refine LWp.seq ?_ | refine LWp.region ?_ | refine LWp.block ?_ | refine LWp.exit ?_ | refine LWp.ret ?_ | refine LWp.skip ?_ | refine LOps.valA ?_ | refine LOps.outA ?_ | refine LOps.whenA ?_ | refine LOps.pickA ?_ | refine LOps.storeA ?_)
          exact ⟨rfl, _, holds.over ⟨rfl, rfl, rfl, rfl, rfl, rfl, rfl, rfl, by rw [h6]; rfl, trivial⟩⟩
      rintro T1 S2 ⟨rfl, T5, rfl⟩
      repeat (first | refine LOps.valH (LVal.callS hk (by rw [hP]; exact Try.func21) rfl rfl rfl (by decide)) ?_ | refine LOps.nil ?_ | refine andThen_normal ?_ | refine andThen_exit ?_ | refine andThen_ret ?_ | refine inBlock_normal ?_ | refine inBlock_ret ?_ | refine inBlock_here ?_ | refine inBlock_out rfl ?_ | refine LWp.seq ?_ | refine LWp.region ?_ | refine LWp.block ?_ | refine LWp.exit ?_ | refine LWp.ret ?_ | refine LWp.skip ?_ | refine LOps.valA ?_ | refine LOps.outA ?_ | refine LOps.whenA ?_ | refine LOps.pickA ?_ | refine LOps.storeA ?_)
      refine LWp.cond rfl (fun h => ?_) (fun h => ?_)
      · exact absurd h (by simp)
      repeat (first | refine LOps.nil ?_ | refine andThen_normal ?_ | refine andThen_exit ?_ | refine andThen_ret ?_ | refine inBlock_normal ?_ | refine inBlock_ret ?_ | refine inBlock_here ?_ | refine inBlock_out rfl ?_ | refine LWp.seq ?_ | refine LWp.region ?_ | refine LWp.block ?_ | refine LWp.exit ?_ | refine LWp.ret ?_ | refine LWp.skip ?_ | refine LOps.valA ?_ | refine LOps.outA ?_ | refine LOps.whenA ?_ | refine LOps.pickA ?_ | refine LOps.storeA ?_)
      exact ⟨256 - (j + 1), by omega, _, j + 1, E2, ms, by omega, rfl, hO, hf2, holds.over ⟨rfl, rfl, rfl, rfl, rfl, rfl, rfl, rfl, trivial⟩⟩
    · have hge : j = 256 := by have h : decide ((j : Int) < 256) = false := h; simp at h; omega
      subst hge
      repeat (first | refine LOps.nil ?_ | refine andThen_normal ?_ | refine andThen_exit ?_ | refine andThen_ret ?_ | refine inBlock_normal ?_ | refine inBlock_ret ?_ | refine inBlock_here ?_ | refine inBlock_out rfl ?_ | refine LWp.seq ?_ | refine LWp.region ?_ | refine LWp.block ?_ | refine LWp.exit ?_ | refine LWp.ret ?_ | refine LWp.skip ?_ | refine LOps.valA ?_ | refine LOps.outA ?_ | refine LOps.whenA ?_ | refine LOps.pickA ?_ | refine LOps.storeA ?_)
      exact ⟨_, E, ks, hO, hf, holds.over ⟨rfl, rfl, rfl, rfl, rfl, rfl, rfl, trivial⟩⟩
  clear le1 new1 h1 E S10
  rintro T1 S1 ⟨T2, E, ks, hO, hf, rfl⟩
  replace hO : OwnI S9 S1 E e (kindDn ks.length) ks := by
    have h1 : kindUp ks.length = kindDn ks.length := by rw [hf.len]; rfl
    rw [h1] at hO; exact hO
  repeat (first | refine LWp.seq (LWp.cut 28 (fun T1 S1 => ∃ (T2 : Nat → TV), T1 = over T2 [(2, .one (bv true)), (3, .one (sv bB)), (4, .one (bv true)), (5, .one (bv true)), (15, .one (bv true)), (16, .one (bv true))]) rfl ?_ ?_) | refine LOps.nil ?_ | refine andThen_normal ?_ | refine andThen_exit ?_ | refine andThen_ret ?_ | refine inBlock_normal ?_ | refine inBlock_ret ?_ | refine inBlock_here ?_ | refine inBlock_out rfl ?_ | refine LWp.seq ?_ | refine LWp.region ?_ | refine LWp.block ?_ | refine LWp.exit ?_ | refine LWp.ret ?_ | refine LWp.skip ?_ | refine LOps.valA ?_ | refine LOps.outA ?_ | refine LOps.whenA ?_ | refine LOps.pickA ?_ | refine LOps.storeA ?_)
  · repeat (first | refine LOps.nil ?_ | refine andThen_normal ?_ | refine andThen_exit ?_ | refine andThen_ret ?_ | refine inBlock_normal ?_ | refine inBlock_ret ?_ | refine inBlock_here ?_ | refine inBlock_out rfl ?_ | refine LWp.seq ?_ | refine LWp.region ?_ | refine LWp.block ?_ | refine LWp.exit ?_ | refine LWp.ret ?_ | refine LWp.skip ?_ | refine LOps.valA ?_ | refine LOps.outA ?_ | refine LOps.whenA ?_ | refine LOps.pickA ?_ | refine LOps.storeA ?_)
    refine LWp.loop (fun m T S' => ∃ (T' : Nat → TV) (j : Nat) (E : Nat → Prop) (ks : Kv Int), j ≤ 256 ∧ m = j ∧ OwnI S9 S' E e (kindDn ks.length) ks ∧ Fill j ks ∧ T = over T' [(2, .one (bv true)), (3, .one (sv bB)), (4, .one (bv true)), (5, .one (bv true)), (15, .one (bv true)), (16, .one (bv true)), (17, ptr e), (20, .one (iv ((j : Int) - 1)))]) 256 ?_ ?_
    · exact ⟨_, 256, E, ks, by omega, rfl, hO, hf, holds.over ⟨rfl, rfl, rfl, rfl, rfl, rfl, rfl, rfl, trivial⟩⟩
    clear hO hf ks E S1
    rintro j T S1 ⟨T', _, E, ks, hj, rfl, hO, hf, rfl⟩
    repeat (first | refine LOps.nil ?_ | refine andThen_normal ?_ | refine andThen_exit ?_ | refine andThen_ret ?_ | refine inBlock_normal ?_ | refine inBlock_ret ?_ | refine inBlock_here ?_ | refine inBlock_out rfl ?_ | refine LWp.seq ?_ | refine LWp.region ?_ | refine LWp.block ?_ | refine LWp.exit ?_ | refine LWp.ret ?_ | refine LWp.skip ?_ | refine LOps.valA ?_ | refine LOps.outA ?_ | refine LOps.whenA ?_ | refine LOps.pickA ?_ | refine LOps.storeA ?_)
    refine LWp.cond rfl (fun h => ?_) (fun h => ?_)
    · have hpos : 0 < j := by have h : decide ((j : Int) - 1 ≥ 0) = true := h; simp at h; omega
      obtain ⟨i, rfl⟩ : ∃ i, j = i + 1 := ⟨j - 1, by omega⟩
      have hlt : i < 256 := by omega
      have ei : ((i + 1 : Nat) : Int) - 1 = (i : Int) := by omega
      obtain ⟨hyes, hf2⟩ := hf.off hO.node.ok.ks hlt
      have hfl := hf.len
      repeat (first | refine LOps.valH (r := .one (uv (i : Nat))) (LVal.to (LVal.convInt hD rfl rfl rfl rfl rfl) (by rw [ei, lt_wrap8I (n := i) hlt])) ?_ | refine LOps.nil ?_ | refine andThen_normal ?_ | refine andThen_exit ?_ | refine andThen_ret ?_ | refine inBlock_normal ?_ | refine inBlock_ret ?_ | refine inBlock_here ?_ | refine inBlock_out rfl ?_ | refine LWp.seq ?_ | refine LWp.region ?_ | refine LWp.block ?_ | refine LWp.exit ?_ | refine LWp.ret ?_ | refine LWp.skip ?_ | refine LOps.valA ?_ | refine LOps.outA ?_ | refine LOps.whenA ?_ | refine LOps.pickA ?_ | refine LOps.storeA ?_)
      refine LOps.do (LDo.callF (dropI_L hP hO.node hlt) (by rw [hP]; exact Try.func13)) rfl rfl rfl ?_
      rintro _ S2 ⟨rfl, E2, h2, m2⟩
      have ek : dropK (kindDn ks.length) ks i = kindDn (delL ks i).length := by
        unfold dropK
        rw [hyes, if_pos rfl, hfl, hf2.len]
        exact kindDn_drop (n := i + 1) (by omega)
      rw [ek] at h2
      replace hO := hO.next h2 m2
      clear h2 m2 ek
      generalize delL ks i = ms at hO hf2
      have hk := nodeI_kind hP hO.node
      rw [hf2.len] at hk
      repeat (first | refine LWp.seq (LWp.cut 33 (fun T1 S3 => S3 = S2 ∧ ∃ (T2 : Nat → TV), T1 = over T2 [(2, .one (bv true)), (3, .one (sv bB)), (4, .one (bv true)), (5, .one (bv true)), (15, .one (bv true)), (16, .one (bv true)), (17, ptr e), (20, .one (iv (i : Nat))), (21, .one (iv (if i ≤ 36 then 48 else 256 : Nat)))]) rfl ?_ ?_) | refine LOps.nil ?_ | refine andThen_normal ?_ | refine andThen_exit ?_ | refine andThen_ret ?_ | refine inBlock_normal ?_ | refine inBlock_ret ?_ | refine inBlock_here ?_ | refine inBlock_out rfl ?_ | refine LWp.seq ?_ | refine LWp.region ?_ | refine LWp.block ?_ | refine LWp.exit ?_ | refine LWp.ret ?_ | refine LWp.skip ?_ | refine LOps.valA ?_ | refine LOps.outA ?_ | refine LOps.whenA ?_ | refine LOps.pickA ?_ | refine LOps.storeA ?_)
      · repeat (first | refine LOps.nil ?_ | refine andThen_normal ?_ | refine andThen_exit ?_ | refine andThen_ret ?_ | refine inBlock_normal ?_ | refine inBlock_ret ?_ | refine inBlock_here ?_ | refine inBlock_out rfl ?_ | refine LWp.seq ?_ | refine LWp.region ?_ | refine LWp.block ?_ | refine LWp.exit ?_ | refine LWp.ret ?_ | refine LWp.skip ?_ | refine LOps.valA ?_ | refine LOps.outA ?_ | refine LOps.whenA ?_ | refine LOps.pickA ?_ | refine LOps.storeA ?_)
        refine LWp.cond rfl (fun h => ?_) (fun h => ?_)
        · have h : decide (((i + 1 : Nat) : Int) - 1 ≤ 36) = true := h
          have h5 : i ≤ 36 := by simp at h; omega
          repeat (first | refine LOps.nil ?_ | refine andThen_normal ?_ | refine andThen_exit ?_ | refine andThen_ret ?_ | refine inBlock_normal ?_ | refine inBlock_ret ?_ | refine inBlock_here ?_ | refine inBlock_out rfl ?_ | refine LWp.seq ?_ | refine LWp.region ?_ | refine LWp.block ?_ | refine LWp.exit ?_ | refine LWp.ret ?_ | refine LWp.skip ?_ | refine LOps.valA ?_ | refine LOps.outA ?_ | refine LOps.whenA ?_ | refine LOps.pickA ?_ | refine LOps.storeA ?_)
          exact ⟨rfl, _, holds.over ⟨rfl, rfl, rfl, rfl, rfl, rfl, rfl, by rw [← ei]; rfl, by rw [if_pos h5]; rfl, trivial⟩⟩
        · have h : decide (((i + 1 : Nat) : Int) - 1 ≤ 36) = false := h
          have h5 : ¬ i ≤ 36 := by simp at h; omega
          repeat (first | refine LOps.nil ?_ | refine andThen_normal ?_ | refine andThen_exit ?_ | refine andThen_ret ?_ | refine inBlock_normal ?_ | refine inBlock_ret ?_ | refine inBlock_here ?_ | refine inBlock_out rfl ?_ | refine LWp.seq ?_ | refine LWp.region ?_ | refine LWp.block ?_ | refine LWp.exit ?_ | refine LWp.ret ?_ | refine LWp.skip ?_ | refine LOps.valA ?_ | refine LOps.outA ?_ | refine LOps.whenA ?_ | refine LOps.pickA ?_ | refine LOps.storeA ?_)
          exact ⟨rfl, _, holds.over ⟨rfl, rfl, rfl, rfl, rfl, rfl, rfl, by rw [← ei]; rfl, by rw [if_neg h5]; rfl, trivial⟩⟩
      rintro T1 S2 ⟨rfl, T3, rfl⟩
      repeat (first | refine LWp.seq (LWp.cut 35 (fun T1 S3 => S3 = S2 ∧ ∃ (T2 : Nat → TV), T1 = over T2 [(2, .one (bv true)), (3, .one (sv bB)), (4, .one (bv true)), (5, .one (bv true)), (15, .one (bv true)), (16, .one (bv true)), (17, ptr e), (20, .one (iv (i : Nat))), (21, .one (iv (if i ≤ 12 then 16 else if i ≤ 36 then 48 else 256 : Nat)))]) rfl ?_ ?_) | refine LOps.nil ?_ | refine andThen_normal ?_ | refine andThen_exit ?_ | refine andThen_ret ?_ | refine inBlock_normal ?_ | refine inBlock_ret ?_ | refine inBlock_here ?_ | refine inBlock_out rfl ?_ | refine LWp.seq ?_ | refine LWp.region ?_ | refine LWp.block ?_ | refine LWp.exit ?_ | refine LWp.ret ?_ | refine LWp.skip ?_ | refine LOps.valA ?_ | refine LOps.outA ?_ | refine LOps.whenA ?_ | refine LOps.pickA ?_ | refine LOps.storeA ?_)
      · repeat (first | refine LOps.nil ?_ | refine andThen_normal ?_ | refine andThen_exit ?_ | refine andThen_ret ?_ | refine inBlock_normal ?_ | refine inBlock_ret ?_ | refine inBlock_here ?_ | refine inBlock_out rfl ?_ | refine LWp.seq ?_ | refine LWp.region ?_ | refine LWp.block ?_ | refine LWp.exit ?_ | refine LWp.ret ?_ | refine LWp.skip ?_ | refine LOps.valA ?_ | refine LOps.outA ?_ | refine LOps.whenA ?_ | refine LOps.pickA ?_ | refine LOps.storeA ?_)
        refine LWp.cond rfl (fun h => ?_) (fun h => ?_)
        · have h : decide ((i : Int) ≤ 12) = true := h
          have h5 : i ≤ 12 := by simp at h; omega
          repeat (first | refine LOps.nil ?_ | refine andThen_normal ?_ | refine andThen_exit ?_ | refine andThen_ret ?_ | refine inBlock_normal ?_ | refine inBlock_ret ?_ | refine inBlock_here ?_ | refine inBlock_out rfl ?_ | refine LWp.seq ?_ | refine LWp.region ?_ | refine LWp.block ?_ | refine LWp.exit ?_ | refine LWp.ret ?_ | refine LWp.skip ?_ | refine LOps.valA ?_ | refine LOps.outA ?_ | refine LOps.whenA ?_ | refine LOps.pickA ?_ | refine LOps.storeA ?_)
          exact ⟨rfl, _, holds.over ⟨rfl, rfl, rfl, rfl, rfl, rfl, rfl, rfl, by rw [if_pos h5]; rfl, trivial⟩⟩
        · have h : decide ((i : Int) ≤ 12) = false := h
          have h5 : ¬ i ≤ 12 := by simp at h; omega
          repeat (first | refine LOps.nil ?_ | refine andThen_normal ?_ | refine andThen_exit ?_ | refine andThen_ret ?_ | refine inBlock_normal ?_ | refine inBlock_ret ?_ | refine inBlock_here ?_ | refine inBlock_out rfl ?_ | refine LWp.seq ?_ | refine LWp.region ?_ | refine LWp.block ?_ | refine LWp.exit ?_ | refine LWp.ret ?_ | refine LWp.skip ?_ | refine LOps.valA ?_ | refine LOps.outA ?_ | refine LOps.whenA ?_ | refine LOps.pickA ?_ | refine LOps.storeA ?_)
          exact ⟨rfl, _, holds.over ⟨rfl, rfl, rfl, rfl, rfl, rfl, rfl, rfl, by rw [if_neg h5]; rfl, trivial⟩⟩
      rintro T1 S2 ⟨rfl, T4, rfl⟩
      repeat (first | refine LWp.seq (LWp.cut 37 (fun T1 S3 => S3 = S2 ∧ ∃ (T2 : Nat → TV), T1 = over T2 [(2, .one (bv true)), (3, .one (sv bB)), (4, .one (bv true)), (5, .one (bv true)), (15, .one (bv true)), (16, .one (bv true)), (17, ptr e), (20, .one (iv (i : Nat))), (21, .one (iv (kindDn i : Nat)))]) rfl ?_ ?_) | refine LOps.nil ?_ | refine andThen_normal ?_ | refine andThen_exit ?_ | refine andThen_ret ?_ | refine inBlock_normal ?_ | refine inBlock_ret ?_ | refine inBlock_here ?_ | refine inBlock_out rfl ?_ | refine LWp.seq ?_ | refine LWp.region ?_ | refine LWp.block ?_ | refine LWp.exit ?_ | refine LWp.ret ?_ | refine LWp.skip ?_ | refine LOps.valA ?_ | refine LOps.outA ?_ | refine LOps.whenA ?_ | refine LOps.pickA ?_ | refine LOps.storeA ?_)
      · repeat (first | refine LOps.nil ?_ | refine andThen_normal ?_ | refine andThen_exit ?_ | refine andThen_ret ?_ | refine inBlock_normal ?_ | refine inBlock_ret ?_ | refine inBlock_here ?_ | refine inBlock_out rfl ?_ | refine LWp.seq ?_ | refine LWp.region ?_ | refine LWp.block ?_ | refine LWp.exit ?_ | refine LWp.ret ?_ | refine LWp.skip ?_ | refine LOps.valA ?_ | refine LOps.outA ?_ | refine LOps.whenA ?_ | refine LOps.pickA ?_ | refine LOps.storeA ?_)
        refine LWp.cond rfl (fun h => ?_) (fun h => ?_)
        · have h : decide ((i : Int) ≤ 3) = true := h
          have h5 : i ≤ 3 := by simp at h; omega
          have h6 : kindDn i = 4 := by unfold kindDn; rw [if_pos h5]
          repeat (first | refine LOps.nil ?_ | refine andThen_normal ?_ | refine andThen_exit ?_ | refine andThen_ret ?_ | refine inBlock_normal ?_ | refine inBlock_ret ?_ | refine inBlock_here ?_ | refine inBlock_out rfl ?_ | refine LWp.seq ?_ | refine LWp.region ?_ | refine LWp.block ?_ | refine LWp.exit ?_ | refine LWp.ret ?_ | refine LWp.skip ?_ | refine LOps.valA ?_ | refine LOps.outA ?_ | refine LOps.whenA ?_ | refine LOps.pickA ?_ | refine LOps.storeA ?_)
          exact ⟨rfl, _, holds.over ⟨rfl, rfl, rfl, rfl, rfl, rfl, rfl, rfl, by rw [h6]; rfl, trivial⟩⟩
        · have h : decide ((i : Int) ≤ 3) = false := h
          have h5 : ¬ i ≤ 3 := by simp at h; omega
          have h6 : kindDn i = if i ≤ 12 then 16 else if i ≤ 36 then 48 else 256 := by unfold kindDn; rw [if_neg h5]
          repeat (first | refine LOps.nil ?_ | refine andThen_normal ?_ | refine andThen_exit ?_ | refine andThen_ret ?_ | refine inBlock_normal ?_ | refine inBlock_ret ?_ | refine inBlock_here ?_ | refine inBlock_out rfl ?_ | refine LWp.seq ?_ | refine LWp.region ?_ | refine LWp.block ?_ | refine LWp.exit ?_ | refine LWp.ret ?_ | refine LWp.skip ?_ | refine LOps.valA ?_ | refine LOps.outA ?_ | refine LOps.whenA ?_ | refine LOps.pickA ?_ | refine LOps.storeA ?_)
          exact ⟨rfl, _, holds.over ⟨rfl, rfl, rfl, rfl, rfl, rfl, rfl, rfl, by rw [h6]; rfl, trivial⟩⟩
      rintro T1 S2 ⟨rfl, T5, rfl⟩
      repeat (first | refine LOps.valH (LVal.callS hk (by rw [hP]; exact Try.func21) rfl rfl rfl (by decide)) ?_ | refine LOps.nil ?_ | refine andThen_normal ?_ | refine andThen_exit ?_ | refine andThen_ret ?_ | refine inBlock_normal ?_ | refine inBlock_ret ?_ | refine inBlock_here ?_ | refine inBlock_out rfl ?_ | refine LWp.seq ?_ | refine LWp.region ?_ | refine LWp.block ?_ | refine LWp.exit ?_ | refine LWp.ret ?_ | refine LWp.skip ?_ | refine LOps.valA ?_ | refine LOps.outA ?_ | refine LOps.whenA ?_ | refine LOps.pickA ?_ | refine LOps.storeA ?_)
      refine LWp.cond rfl (fun h => ?_) (fun h => ?_)
      · exact absurd h (by simp)
      repeat (first | refine LOps.valH (r := .one (iv ((i : Int) - 1))) (LVal.sub64 rfl rfl rfl (by omega)) ?_ | refine LOps.nil ?_ | refine andThen_normal ?_ | refine andThen_exit ?_ | refine andThen_ret ?_ | refine inBlock_normal ?_ | refine inBlock_ret ?_ | refine inBlock_here ?_ | refine inBlock_out rfl ?_ | refine LWp.seq ?_ | refine LWp.region ?_ | refine LWp.block ?_ | refine LWp.exit ?_ | refine LWp.ret ?_ | refine LWp.skip ?_ | refine LOps.valA ?_ | refine LOps.outA ?_ | refine LOps.whenA ?_ | refine LOps.pickA ?_ | refine LOps.storeA ?_)
      exact ⟨i, by omega, _, i, E2, ms, by omega, rfl, hO, hf2, holds.over ⟨rfl, rfl, rfl, rfl, rfl, rfl, rfl, rfl, trivial⟩⟩
    · repeat (first | refine LOps.nil ?_ | refine andThen_normal ?_ | refine andThen_exit ?_ | refine andThen_ret ?_ | refine inBlock_normal ?_ | refine inBlock_ret ?_ | refine inBlock_here ?_ | refine inBlock_out rfl ?_ | refine LWp.seq ?_ | refine LWp.region ?_ | refine LWp.block ?_ | refine LWp.exit ?_ | refine LWp.ret ?_ | refine LWp.skip ?_ | refine LOps.valA ?_ | refine LOps.outA ?_ | refine LOps.whenA ?_ | refine LOps.pickA ?_ | refine LOps.storeA ?_)
      exact ⟨_, holds.over ⟨rfl, rfl, rfl, rfl, rfl, rfl, trivial⟩⟩
  clear hO hf ks E
  rintro T1 S1' ⟨T2, rfl⟩
  refine andThen_normal ?_
  refine LWp.seq ?_
  refine LWp.region ?_
  refine LOps.valG (r := .one (bv true)) (LVal.to (LVal.move (.inl rfl)) rfl) rfl rfl rfl ?_
  refine LOps.valG (r := .one (bv true)) (LVal.to (LVal.move (.inl rfl)) rfl) rfl rfl rfl ?_
  refine LOps.valG (r := .one (sv bB)) (LVal.to (LVal.move (.inl rfl)) rfl) rfl rfl rfl ?_
  refine LOps.valG (r := .one (bv true)) (LVal.to (LVal.eqStr rfl rfl rfl) (by rw [decide_eq_true rfl])) rfl rfl rfl ?_
  refine LOps.valG (r := .one (bv true)) (LVal.to (LVal.pick rfl rfl) rfl) rfl rfl rfl ?_
  refine LOps.valG (r := .one (bv true)) (LVal.to (LVal.move (.inl rfl)) rfl) rfl rfl rfl ?_
  refine LOps.valG (r := .one (bv true)) (LVal.to (LVal.move (.inl rfl)) rfl) rfl rfl rfl ?_
  refine LOps.valG (r := .one (bv true)) (LVal.to (LVal.pick rfl rfl) rfl) rfl rfl rfl ?_
  refine LOps.valG (r := .one (bv true)) (LVal.to (LVal.move (.inl rfl)) rfl) rfl rfl rfl ?_
  refine LOps.valG (r := .one (bv true)) (LVal.to (LVal.move (.inl rfl)) rfl) rfl rfl rfl ?_
  refine LOps.valG (r := .one (bv true)) (LVal.to (LVal.pick rfl rfl) rfl) rfl rfl rfl ?_
  refine LOps.valG (r := .one (bv true)) (LVal.to (LVal.move (.inl rfl)) rfl) rfl rfl rfl ?_
  refine LOps.valG (r := .one (bv true)) (LVal.to (LVal.move (.inl rfl)) rfl) rfl rfl rfl ?_
  refine LOps.valG (r := .one (bv true)) (LVal.to (LVal.pick rfl rfl) rfl) rfl rfl rfl ?_
  refine LOps.valG (r := .one (bv true)) (LVal.to (LVal.move (.inl rfl)) rfl) rfl rfl rfl ?_
  refine LOps.valG (r := .one (bv true)) (LVal.to (LVal.move (.inl rfl)) rfl) rfl rfl rfl ?_
  refine LOps.valG (r := .one (bv true)) (LVal.to (LVal.pick rfl rfl) rfl) rfl rfl rfl ?_
  refine LOps.valG (r := .one (bv true)) (LVal.to (LVal.move (.inl rfl)) rfl) rfl rfl rfl ?_
  refine LOps.do (LDo.callF (wakes_L hP _) (by rw [hP]; exact Try.func8)) rfl rfl rfl ?_
  rintro _ S2 ⟨rfl, _⟩
  refine LOps.valG (r := .one (bv true)) (LVal.to (LVal.pick rfl rfl) rfl) rfl rfl rfl ?_
  repeat (first | refine LOps.nil ?_ | refine andThen_normal ?_ | refine andThen_exit ?_ | refine andThen_ret ?_ | refine inBlock_normal ?_ | refine inBlock_ret ?_ | refine inBlock_here ?_ | refine inBlock_out rfl ?_ | refine LWp.seq ?_ | refine LWp.region ?_ | refine LWp.block ?_ | refine LWp.exit ?_ | refine LWp.ret ?_ | refine LWp.skip ?_ | refine LOps.valA ?_ | refine LOps.outA ?_ | refine LOps.whenA ?_ | refine LOps.pickA ?_ | refine LOps.storeA ?_)
  exact ⟨_, LRes.one rfl, rfl⟩
end Go.Proofs.Ytinbibeapooghaa.LF

namespace Go.Proofs.Ytinbibeapooghaa
open Go.RowKit LF
theorem artnodeKnown_walk (W : World) : Calls Try.prog 6 #[] W fun e W' => e = .returned (.bool true) ∧ Below W.heap.size W W' :=
  law_calls (fun G S h => known_L h S) .nil
end Go.Proofs.Ytinbibeapooghaa
