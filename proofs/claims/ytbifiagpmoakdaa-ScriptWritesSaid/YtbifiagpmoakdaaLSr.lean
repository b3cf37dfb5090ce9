/- The program's Encode. -/
import Derived.Test.YtbifiagpmoakdaaLSq
set_option linter.unusedVariables false
set_option linter.unusedSimpArgs false
namespace Go.Proofs.Ytbifiagpmoakdaa.LF
open Go.RowKit
set_option linter.unusedVariables false

theorem textW_B {s : ByteArray} (h : s.size < 256) : textW s = textB s := by
  unfold textW textB; rw [Nat.min_eq_left (by omega)]
theorem numW1 {x : Int} (h : inN x 256) : numW 1 x = [UInt8.ofNat x.toNat] := by
  have h := h
  unfold inN at h
  simp only [numW, List.range_one, List.map_cons, List.map_nil, byteW, Nat.mul_zero, Int.pow_zero, Int.ediv_one]
  congr 2; omega
theorem leB_eq : ∀ (n : Nat) (x : Nat), leB n x = (List.range n).map fun i => UInt8.ofNat (x / 2 ^ (8 * i) % 256) := by
  intro n
  induction n with
  | zero => intro x; rfl
  | succ n ih =>
    intro x
    rw [leB, ih, List.range_succ_eq_map, List.map_cons, List.map_map]
    congr 1
    · simp
    · apply List.map_congr_left
      intro i _
      simp only [Function.comp_apply]
      rw [Nat.div_div_eq_div_mul, show 8 * (i + 1) = 8 + 8 * i by omega, Nat.pow_add]
theorem numW_leB {n : Nat} {x : Int} (h : 0 ≤ x) : numW n x = leB n x.toNat := by
  rw [leB_eq]
  unfold numW
  apply List.map_congr_left
  intro i _
  unfold byteW
  congr 1
  obtain ⟨m, rfl⟩ := Int.eq_ofNat_of_zero_le h
  have : ((m : Int) / 2 ^ (8 * i)) % 256 = ((m / 2 ^ (8 * i) % 256 : Nat) : Int) := by
    rw [Int.natCast_emod, Int.natCast_ediv, Int.natCast_pow]; rfl
  rw [this, Int.toNat_natCast, Int.toNat_natCast]
theorem wrW_B {w : Wr} (h : wrOK w) : wrW w = wrB w := by
  unfold wrW wrB
  rw [textW_B h.1, textW_B h.2.1]
theorem flat_B {l : List Wr} (h : ∀ w ∈ l, wrOK w) : l.flatMap wrW = l.flatMap wrB := by
  induction l with
  | nil => rfl
  | cons w l ih => rw [List.flatMap_cons, List.flatMap_cons, wrW_B (h w (by simp)), ih fun x hx => h x (List.mem_cons_of_mem _ hx)]
theorem opW_B {x : OpV} (h : opOK x) : opW1 x = UInt8.ofNat x.kind.toNat :: opB x := by
  unfold opOK at h
  unfold opW1 opB opW2
  congr 1
  split at h
  · rename_i h1
    rw [if_pos h1, if_neg (by omega), if_neg (by omega), if_neg (by omega), if_neg (by omega), if_neg (by omega), List.append_nil, textW_B h.2]
  rename_i h1
  rw [if_neg h1]
  split at h
  · rename_i h2
    rw [if_pos h2, if_neg (by omega), if_pos h2, textW_B h.2.1, textW_B h.2.2]
  rename_i h2
  rw [if_neg h2, if_neg h2]
  split at h
  · rename_i h4
    rw [if_pos h4, if_neg (by omega), if_pos h4, textW_B h.2.1, textW_B h.2.2.1, textW_B h.2.2.2.1]
  rename_i h4
  rw [if_neg h4, if_neg h4]
  split at h
  · rename_i h5
    rw [if_pos h5, if_neg (by omega), if_pos h5, textW_B h.2]
  rename_i h5
  rw [if_neg h5, if_neg h5]
  split at h
  · rename_i h6
    rw [if_pos h6, if_pos h6, if_pos h6, List.nil_append, numW1 ⟨by omega, by omega⟩, List.take_of_length_le (by omega), flat_B h.2.2]
    rfl
  · exact h.elim
theorem bytesW_B {x : En} (h : enOK x) : bytesW x = enBytes x := by
  unfold enOK at h
  unfold bytesW enBytes enB
  congr 1
  split at h
  · rename_i h1
    rw [if_neg (by omega), if_neg (by omega), if_neg (by omega), if_neg (by omega), if_pos h1, if_pos h1, opW_B h.2]
  rename_i h1
  simp only [if_neg h1]
  split at h
  · rename_i h2
    rw [if_pos h2, if_pos h2, numW_leB h.2.1]
  rename_i h2
  rw [if_neg h2, if_neg h2]
  split at h
  · rename_i h3
    rw [if_pos h3, if_pos h3, numW1 h.2.1, numW1 h.2.2]
  rename_i h3
  rw [if_neg h3, if_neg h3]
  split at h
  · rename_i h4
    rw [if_pos h4, if_pos h4, numW1 h.2]
  rename_i h4
  rw [if_neg h4, if_neg h4]
  split at h
  · rename_i h6
    rw [if_pos h6, if_pos h6, numW_leB h.2.1]
  · exact h.elim

/-- Could an entry be written? As the program asks. -/
def okB (x : En) : Bool := !(((enS (bytesW x) (0, false)).2.2 || !(((enS (bytesW x) (0, false)).2.1 : Int) == ((bytesW x).length : Int))) || !decide (x = (enS (bytesW x) (0, false)).1))
theorem okB_iff {x : En} : okB x = true ↔ enOK x := by
  unfold okB
  constructor
  · intro h
    simp at h
    obtain ⟨⟨h1, h2⟩, h3⟩ := h
    have e : enS (bytesW x) (0, false) = (x, ((bytesW x).length, false)) := by
      rcases he : enS (bytesW x) (0, false) with ⟨z, p, d⟩
      rw [he] at h1 h2 h3
      simp only at h1 h2 h3
      rw [h1, ← h3, show p = (bytesW x).length by omega]
    exact ((Codec.en.iff _ _ _ _ (Nat.zero_le _)).1 e).1
  · intro h
    have e : enS (bytesW x) (0, false) = (x, ((bytesW x).length, false)) :=
      (Codec.en.iff _ _ _ _ (Nat.zero_le _)).2 ⟨h, by rw [bytesW_B h]; omega, by rw [bytesW_B h]; exact List.prefix_refl _⟩
    rw [e]; simp
theorem wrB_len {w : Wr} (h : wrOK w) : (wrB w).length ≤ 600 := by
  have h1 := h.1
  have h2 := h.2.1
  have e : ∀ t : ByteArray, t.data.toList.length = t.size := fun t => by rw [Array.length_toList]; rfl
  unfold wrB
  simp only [List.length_append, textB, List.length_cons, e, markB_len]
  split
  · simp; omega
  · simp only [List.length_cons, e]; omega
theorem flatB_len {l : List Wr} (h : ∀ w ∈ l, wrOK w) : (l.flatMap wrB).length ≤ l.length * 600 := by
  induction l with
  | nil => simp
  | cons w l ih =>
    have := wrB_len (h w (by simp))
    have := ih fun x hx => h x (List.mem_cons_of_mem _ hx)
    rw [List.flatMap_cons, List.length_append, List.length_cons]; omega
theorem leB_len : ∀ (n x : Nat), (leB n x).length = n
  | 0, _ => rfl
  | n + 1, x => by rw [leB, List.length_cons, leB_len n]
theorem opB_len {x : OpV} (h : opOK x) : (opB x).length ≤ 155000 := by
  have e : ∀ t : ByteArray, t.data.toList.length = t.size := fun t => by rw [Array.length_toList]; rfl
  unfold opOK at h
  unfold opB
  split at h
  · rename_i h1; rw [if_pos h1]; simp only [textB, List.length_cons, e]; omega
  rename_i h1
  rw [if_neg h1]
  split at h
  · rename_i h1; rw [if_pos h1]; simp only [textB, List.length_append, List.length_cons, e]; omega
  rename_i h1
  rw [if_neg h1]
  split at h
  · rename_i h1; rw [if_pos h1]; simp only [textB, List.length_append, List.length_cons, e, markB_len]
    split
    · simp only [List.length_cons, e]; omega
    · simp; omega
  rename_i h1
  rw [if_neg h1]
  split at h
  · rename_i h1; rw [if_pos h1]; simp only [textB, List.length_append, List.length_cons, e, markB_len]; omega
  rename_i h1
  rw [if_neg h1]
  split at h
  · rename_i h1; rw [if_pos h1]
    have := flatB_len h.2.2
    rw [List.length_cons]; omega
  · exact h.elim
theorem enBytes_len {x : En} (h : enOK x) : (enBytes x).length ≤ 160000 := by
  unfold enOK at h
  unfold enBytes enB
  rw [List.length_cons]
  split at h
  · rename_i h1; rw [if_pos h1, List.length_cons]; have := opB_len h.2; omega
  rename_i h1
  rw [if_neg h1]
  split at h
  · rename_i h1; rw [if_pos h1, leB_len]; omega
  rename_i h1
  rw [if_neg h1]
  split at h
  · rename_i h1; rw [if_pos h1]; simp
  rename_i h1
  rw [if_neg h1]
  split at h
  · rename_i h1; rw [if_pos h1]; simp
  rename_i h1
  rw [if_neg h1]
  split at h
  · rename_i h1; rw [if_pos h1, leB_len]; omega
  · exact h.elim
theorem lBytes_le {l : List En} (h : ∀ x ∈ l, enOK x) : (lBytes l).length ≤ l.length * 160000 := by
  induction l with
  | nil => simp [lBytes]
  | cons x l ih =>
    have := enBytes_len (h x (by simp))
    have := ih fun y hy => h y (List.mem_cons_of_mem _ hy)
    rw [lBytes_cons, List.length_append, List.length_cons]; omega

theorem wrW_flat_len {l : List Wr} (h : ∀ w ∈ l, WrB w) : (l.flatMap wrW).length ≤ l.length * 120010 := by
  induction l with
  | nil => simp
  | cons w l ih =>
    have := wrW_len (h w (by simp))
    have := ih fun x hx => h x (List.mem_cons_of_mem _ hx)
    rw [List.flatMap_cons, List.length_append, List.length_cons]; omega
theorem opW2_len {x : En} (h : EnB x) : (opW2 x.op).length ≤ 31000000 := by
  have h1 := h.val
  have h2 := h.old
  unfold opW2
  split
  · rw [textW_len]; omega
  split
  · rw [List.length_append, List.length_append, textW_len, markB_len]
    split
    · rw [textW_len]; omega
    · simp; omega
  split
  · rw [markB_len]; omega
  split
  · have := wrW_flat_len (l := x.op.writes.take 255) fun w hw => h.writes w (List.mem_of_mem_take hw)
    have h3 : (x.op.writes.take 255).length ≤ 255 := by rw [List.length_take]; omega
    have := Nat.mul_le_mul_right 120010 h3
    rw [List.length_append, numW_len]; omega
  · simp
theorem bytesW_len {x : En} (h : EnB x) : (bytesW x).length ≤ 1000000000 := by
  have h1 := opW2_len h
  have h2 := h.key
  unfold bytesW
  rw [List.length_cons]
  split
  · rw [numW_len]; omega
  split
  · rw [List.length_append, numW_len, numW_len]; omega
  split
  · rw [numW_len]; omega
  split
  · rw [numW_len]; omega
  split
  · unfold opW1
    rw [List.length_cons, List.length_append]
    split
    · simp; omega
    · rw [textW_len]; omega
  · simp

/-- The program's Encode. -/
def encS (l : List En) : List UInt8 × Nat := if l.all okB then (if (lBytes l).length ≤ 16384 then (lBytes l, 0) else ([], 3)) else ([], 1)

set_option maxHeartbeats 8000000 in
theorem encode_F {G : Ctx} (hP : G.P = Try.prog) (l : List En) (hl : l.length ≤ 100000) (hx : ∀ x ∈ l, EnB x) : LFun G 14 [.one (.sl .sh (l.map enL))] (.tup [.one (.sl .sh (bL (encS l).1)), .one (iv ((encS l).2 : Nat))]) := LFun.of fun S => by
  have hD : TabOK G.P D := by rw [hP]; exact hD0
  have hml : (l.map enL).length = l.length := List.length_map ..
  refine LCalls.enter (fn := Try.f14) (by rw [hP]; exact Try.func14) rfl rfl ?_
  repeat (first | refine LOps.nil ?_ | refine andThen_normal ?_ | refine andThen_exit ?_ | refine andThen_ret ?_ | refine inBlock_normal ?_ | refine inBlock_ret ?_ | refine inBlock_here ?_ | refine inBlock_out rfl ?_ | refine LWp.seq ?_ | refine LWp.region ?_ | refine LWp.block ?_ | refine LWp.exit ?_ | refine LWp.ret ?_ | refine LWp.skip ?_ | refine LOps.valA ?_ | refine LOps.outA ?_ | refine LOps.whenA ?_ | refine LOps.pickA ?_ | refine LOps.storeA ?_)
  refine LWp.loop (fun k T S' => ∃ (T' : Nat → TV) (j : Nat) (o : Own), j ≤ l.length ∧ k = l.length - j ∧ S.le S' ∧ Owned S' 5 (lBytes (l.take j)).length o ∧ Out S o ∧ (∀ x ∈ l.take j, enOK x) ∧ T = over T' [(4, .one (.sl o (bL (lBytes (l.take j))))), (10, .one (.sl .sh (l.map enL))), (11, .one (iv (l.length : Nat))), (12, .one (iv (j : Nat)))]) l.length ?_ ?_
  · exact ⟨_, 0, .nil, by omega, rfl, .refl _, rfl, .nil _, by simp, holds.over ⟨rfl, rfl, by rw [← hml]; rfl, rfl, trivial⟩⟩
  rintro k T S1 ⟨T', j, o, hj, rfl, hle, own, hout, hok, rfl⟩
  repeat (first | refine LOps.nil ?_ | refine andThen_normal ?_ | refine andThen_exit ?_ | refine andThen_ret ?_ | refine inBlock_normal ?_ | refine inBlock_ret ?_ | refine inBlock_here ?_ | refine inBlock_out rfl ?_ | refine LWp.seq ?_ | refine LWp.region ?_ | refine LWp.block ?_ | refine LWp.exit ?_ | refine LWp.ret ?_ | refine LWp.skip ?_ | refine LOps.valA ?_ | refine LOps.outA ?_ | refine LOps.whenA ?_ | refine LOps.pickA ?_ | refine LOps.storeA ?_)
  refine LWp.cond rfl (fun h => ?_) (fun h => ?_)
  · have hlt : j < l.length := by simpa using h
    have hxj := hx _ (List.getElem_mem hlt)
    have hby := bytes_F hP l[j] hxj
    repeat (first | refine LOps.nil ?_ | refine andThen_normal ?_ | refine andThen_exit ?_ | refine andThen_ret ?_ | refine inBlock_normal ?_ | refine inBlock_ret ?_ | refine inBlock_here ?_ | refine inBlock_out rfl ?_ | refine LWp.seq ?_ | refine LWp.region ?_ | refine LWp.block ?_ | refine LWp.exit ?_ | refine LWp.ret ?_ | refine LWp.skip ?_ | refine LOps.valA ?_ | refine LOps.outA ?_ | refine LOps.whenA ?_ | refine LOps.pickA ?_ | refine LOps.storeA ?_)
    refine LOps.do (LDo.alloc hD rfl rfl rfl) rfl rfl rfl ?_
    rintro _ _ ⟨b6, hb6, rfl, rfl⟩
    have s6 := hle.none hb6
    have own1 : Owned ((S1.newBox b6 (lzero ti35)).setBox b6 (enL l[j])) 5 (lBytes (l.take j)).length o := own.newBox.setBox
    have hle1 := (hle.newBox hb6 (lzero ti35)).setBox s6 (enL l[j])
    repeat (first | refine LOps.gen (fun S2 => S.le S2 ∧ Owned S2 5 (lBytes (l.take j)).length o ∧ S2.box b6 = some (enL l[j])) ⟨hle1, own1, box_set _ _ _⟩ ?_ | refine LOps.nil ?_ | refine andThen_normal ?_ | refine andThen_exit ?_ | refine andThen_ret ?_ | refine inBlock_normal ?_ | refine inBlock_ret ?_ | refine inBlock_here ?_ | refine inBlock_out rfl ?_ | refine LWp.seq ?_ | refine LWp.region ?_ | refine LWp.block ?_ | refine LWp.exit ?_ | refine LWp.ret ?_ | refine LWp.skip ?_ | refine LOps.valA ?_ | refine LOps.outA ?_ | refine LOps.whenA ?_ | refine LOps.pickA ?_ | refine LOps.storeA ?_)
    clear hle own own1 hle1 hb6
    rintro S2 ⟨hle, own, k6⟩
    repeat (first | refine LOps.nil ?_ | refine andThen_normal ?_ | refine andThen_exit ?_ | refine andThen_ret ?_ | refine inBlock_normal ?_ | refine inBlock_ret ?_ | refine inBlock_here ?_ | refine inBlock_out rfl ?_ | refine LWp.seq ?_ | refine LWp.region ?_ | refine LWp.block ?_ | refine LWp.exit ?_ | refine LWp.ret ?_ | refine LWp.skip ?_ | refine LOps.val (LVal.call rfl rfl (by rw [hP]; exact Try.func20) rfl (by decide) (hby)) rfl rfl rfl ?_ | refine LOps.whenC (LVal.call rfl rfl (by rw [hP]; exact Try.func20) rfl (by decide) (hby)) ?_ | refine LOps.valA ?_ | refine LOps.outA ?_ | refine LOps.whenA ?_ | refine LOps.pickA ?_ | refine LOps.storeA ?_)
    refine LOps.do (LDo.box rfl rfl) rfl rfl rfl ?_
    rintro _ _ ⟨b8, hb8, rfl, rfl⟩
    have n68 := fresh_ne hb8 k6
    have s8 := hle.none hb8
    have k6 := (box_new_ne S2 (rdL (bytesW l[j]) 0 false) n68).trans k6
    have own := own.newBox (b := b8) (cs := rdL (bytesW l[j]) 0 false)
    have hbl : (bytesW l[j]).length ≤ 1000000000 := bytesW_len hxj
    obtain ⟨z, p, d, ez, hp, hc⟩ := entry_C hP (bs := bytesW l[j]) hbl (p := 0) (bad := false) (box_new S2 b8 _) (Nat.zero_le _)
    repeat (first | refine LOps.nil ?_ | refine andThen_normal ?_ | refine andThen_exit ?_ | refine andThen_ret ?_ | refine inBlock_normal ?_ | refine inBlock_ret ?_ | refine inBlock_here ?_ | refine inBlock_out rfl ?_ | refine LWp.seq ?_ | refine LWp.region ?_ | refine LWp.block ?_ | refine LWp.exit ?_ | refine LWp.ret ?_ | refine LWp.skip ?_ | refine LOps.valA ?_ | refine LOps.outA ?_ | refine LOps.whenA ?_ | refine LOps.pickA ?_ | refine LOps.storeA ?_)
    refine LOps.do (LDo.callF hc (by rw [hP]; exact Try.func18)) rfl rfl rfl ?_
    rintro _ S3 ⟨o3, kb, rfl⟩
    have own := own.only o3 (fun b hb e => by subst hb; subst e; have := hb8.row; rw [Owned] at own; exact absurd own (by show ¬ S2.row _ = _; rw [this]; simp))
    have k6 := o3.box _ _ n68 k6
    have hle := hle.onlyNew hb8 o3
    clear hc o3
    repeat (first | refine LOps.nil ?_ | refine andThen_normal ?_ | refine andThen_exit ?_ | refine andThen_ret ?_ | refine inBlock_normal ?_ | refine inBlock_ret ?_ | refine inBlock_here ?_ | refine inBlock_out rfl ?_ | refine LWp.seq ?_ | refine LWp.region ?_ | refine LWp.block ?_ | refine LWp.exit ?_ | refine LWp.ret ?_ | refine LWp.skip ?_ | refine LOps.valA ?_ | refine LOps.outA ?_ | refine LOps.whenA ?_ | refine LOps.pickA ?_ | refine LOps.storeA ?_)
    refine LOps.do (LDo.alloc hD rfl rfl rfl) rfl rfl rfl ?_
    rintro _ _ ⟨b9, hb9, rfl, rfl⟩
    have n69 := fresh_ne hb9 k6
    have n89 := fresh_ne hb9 kb
    have s9 := hle.none hb9
    have own1 : Owned ((S3.newBox b9 (lzero ti35)).setBox b9 (enL z)) 5 (lBytes (l.take j)).length o := own.newBox.setBox
    have hle1 := (hle.newBox hb9 (lzero ti35)).setBox s9 (enL z)
    have k61 := (box_set_ne (S3.newBox b9 (lzero ti35)) (enL z) n69).trans ((box_new_ne S3 (lzero ti35) n69).trans k6)
    have kb1 := (box_set_ne (S3.newBox b9 (lzero ti35)) (enL z) n89).trans ((box_new_ne S3 (lzero ti35) n89).trans kb)
    repeat (first | refine LOps.gen (fun S4 => S.le S4 ∧ Owned S4 5 (lBytes (l.take j)).length o ∧ S4.box b6 = some (enL l[j]) ∧ S4.box b8 = some (rdL (bytesW l[j]) p d) ∧ S4.box b9 = some (enL z)) ⟨hle1, own1, k61, kb1, box_set _ _ _⟩ ?_ | refine LOps.nil ?_ | refine andThen_normal ?_ | refine andThen_exit ?_ | refine andThen_ret ?_ | refine inBlock_normal ?_ | refine inBlock_ret ?_ | refine inBlock_here ?_ | refine inBlock_out rfl ?_ | refine LWp.seq ?_ | refine LWp.region ?_ | refine LWp.block ?_ | refine LWp.exit ?_ | refine LWp.ret ?_ | refine LWp.skip ?_ | refine LOps.valA ?_ | refine LOps.outA ?_ | refine LOps.whenA ?_ | refine LOps.pickA ?_ | refine LOps.storeA ?_)
    clear hle own own1 hle1 hb8 hb9 k6 k61 kb kb1 s6 s8 s9
    rintro S4 ⟨hle, own, k6, k8, k9⟩
    have hsm := psame_F hP l[j] z (by have := hxj.n; omega)
    have hbm : (bL (bytesW l[j])).length = (bytesW l[j]).length := List.length_map ..
    repeat (first | refine LOps.nil ?_ | refine andThen_normal ?_ | refine andThen_exit ?_ | refine andThen_ret ?_ | refine inBlock_normal ?_ | refine inBlock_ret ?_ | refine inBlock_here ?_ | refine inBlock_out rfl ?_ | refine LWp.seq ?_ | refine LWp.region ?_ | refine LWp.block ?_ | refine LWp.exit ?_ | refine LWp.ret ?_ | refine LWp.skip ?_ | refine LOps.val (LVal.call rfl rfl (by rw [hP]; exact Try.func21) rfl (by decide) (hsm)) rfl rfl rfl ?_ | refine LOps.whenC (LVal.call rfl rfl (by rw [hP]; exact Try.func21) rfl (by decide) (hsm)) ?_ | refine LOps.valA ?_ | refine LOps.outA ?_ | refine LOps.whenA ?_ | refine LOps.pickA ?_ | refine LOps.storeA ?_)
    have hokb : okB l[j] = !((d || !((p : Int) == ((bytesW l[j]).length : Int))) || !decide (l[j] = z)) := by unfold okB; rw [ez]
    refine LWp.cond rfl (fun h => ?_) (fun h => ?_)
    · have hno : okB l[j] = false := by
        rw [hokb, ← hbm]
        have h : ((d || !((p : Int) == ((bL (bytesW l[j])).length : Int))) || !decide (l[j] = z)) = true := h
        rw [h]; rfl
      have he : encS l = ([], 1) := by
        unfold encS
        rw [if_neg]
        rw [List.all_eq_true]
        intro hall
        have := hall _ (List.getElem_mem hlt)
        rw [hno] at this; cases this
      rw [he]
      repeat (first | refine LOps.nil ?_ | refine andThen_normal ?_ | refine andThen_exit ?_ | refine andThen_ret ?_ | refine inBlock_normal ?_ | refine inBlock_ret ?_ | refine inBlock_here ?_ | refine inBlock_out rfl ?_ | refine LWp.seq ?_ | refine LWp.region ?_ | refine LWp.block ?_ | refine LWp.exit ?_ | refine LWp.ret ?_ | refine LWp.skip ?_ | refine LOps.valA ?_ | refine LOps.outA ?_ | refine LOps.whenA ?_ | refine LOps.pickA ?_ | refine LOps.storeA ?_)
      exact ⟨_, LRes.sh (LRes.two rfl), rfl, hle⟩
    · have hyes : okB l[j] = true := by
        rw [hokb, ← hbm]
        have h : ((d || !((p : Int) == ((bL (bytesW l[j])).length : Int))) || !decide (l[j] = z)) = false := h
        rw [h]; rfl
      have hokj := okB_iff.1 hyes
      have hbe := bytesW_B hokj
      have hlen := lBytes_le hok
      have htl : (l.take j).length ≤ 100000 := by rw [List.length_take]; omega
      have hl2 := enBytes_len hokj
      have htm : (l.take j).length * 160000 ≤ 100000 * 160000 := Nat.mul_le_mul_right _ htl
      have hnx : lBytes (l.take (j + 1)) = lBytes (l.take j) ++ bytesW l[j] := by
        rw [List.take_succ_eq_append_getElem hlt, lBytes_app, hbe]; simp [lBytes]
      have hT : bL (lBytes (l.take (j + 1))) = bL (lBytes (l.take j)) ++ bL (bytesW l[j]) := by rw [hnx]; exact List.map_append ..
      have hbl2 : (bytesW l[j]).length ≤ 160000 := by rw [hbe]; exact hl2
      have hbb : (bL (lBytes (l.take j))).length = (lBytes (l.take j)).length := List.length_map ..
      repeat (first | refine LOps.nil ?_ | refine andThen_normal ?_ | refine andThen_exit ?_ | refine andThen_ret ?_ | refine inBlock_normal ?_ | refine inBlock_ret ?_ | refine inBlock_here ?_ | refine inBlock_out rfl ?_ | refine LWp.seq ?_ | refine LWp.region ?_ | refine LWp.block ?_ | refine LWp.exit ?_ | refine LWp.ret ?_ | refine LWp.skip ?_ | refine LOps.valA ?_ | refine LOps.outA ?_ | refine LOps.whenA ?_ | refine LOps.pickA ?_ | refine LOps.storeA ?_)
      refine LOps.do (LDo.append hD rfl rfl rfl rfl rfl rfl rfl rfl (own.ofN hbb.symm) (byL_len _) (by rw [hbb, hbm]; unfold maxLen; omega) (by rw [hbb, hbm]; show _ * 1 ≤ _; omega)) rfl rfl rfl ?_
      rintro _ S5 ⟨o5, rfl, own5, hup, hno⟩
      repeat (first | refine LOps.nil ?_ | refine andThen_normal ?_ | refine andThen_exit ?_ | refine andThen_ret ?_ | refine inBlock_normal ?_ | refine inBlock_ret ?_ | refine inBlock_here ?_ | refine inBlock_out rfl ?_ | refine LWp.seq ?_ | refine LWp.region ?_ | refine LWp.block ?_ | refine LWp.exit ?_ | refine LWp.ret ?_ | refine LWp.skip ?_ | refine LOps.valA ?_ | refine LOps.outA ?_ | refine LOps.whenA ?_ | refine LOps.pickA ?_ | refine LOps.storeA ?_)
      refine ⟨l.length - (j + 1), by omega, _, j + 1, o5, by omega, rfl, hle.upto hup hout, own5.ofN (by rw [hnx, hbb, hbm, List.length_append]), hout.next hle hno, fun x hxm => ?_, holds.over ⟨by rw [hT]; rfl, rfl, rfl, rfl, trivial⟩⟩
      rw [List.take_succ_eq_append_getElem hlt, List.mem_append] at hxm
      rcases hxm with hxm | hxm
      · exact hok x hxm
      · obtain rfl : x = l[j] := by simpa using hxm
        exact hokj
  · have hge : j = l.length := by simp at h; omega
    subst hge
    rw [List.take_length] at hok own
    have hall : l.all okB = true := by
      rw [List.all_eq_true]
      exact fun x hx => okB_iff.2 (hok x hx)
    have hbb : (bL (lBytes l)).length = (lBytes l).length := List.length_map ..
    rw [List.take_length]
    repeat (first | refine LOps.nil ?_ | refine andThen_normal ?_ | refine andThen_exit ?_ | refine andThen_ret ?_ | refine inBlock_normal ?_ | refine inBlock_ret ?_ | refine inBlock_here ?_ | refine inBlock_out rfl ?_ | refine LWp.seq ?_ | refine LWp.region ?_ | refine LWp.block ?_ | refine LWp.exit ?_ | refine LWp.ret ?_ | refine LWp.skip ?_ | refine LOps.valA ?_ | refine LOps.outA ?_ | refine LOps.whenA ?_ | refine LOps.pickA ?_ | refine LOps.storeA ?_)
    refine LWp.cond rfl (fun h => ?_) (fun h => ?_)
    · have hgt : 16384 < (lBytes l).length := by
        have h : decide (((bL (lBytes l)).length : Int) > 16384) = true := h
        rw [hbb] at h
        simp at h; omega
      have he : encS l = ([], 3) := by unfold encS; rw [if_pos hall, if_neg (by omega)]
      rw [he]
      repeat (first | refine LOps.nil ?_ | refine andThen_normal ?_ | refine andThen_exit ?_ | refine andThen_ret ?_ | refine inBlock_normal ?_ | refine inBlock_ret ?_ | refine inBlock_here ?_ | refine inBlock_out rfl ?_ | refine LWp.seq ?_ | refine LWp.region ?_ | refine LWp.block ?_ | refine LWp.exit ?_ | refine LWp.ret ?_ | refine LWp.skip ?_ | refine LOps.valA ?_ | refine LOps.outA ?_ | refine LOps.whenA ?_ | refine LOps.pickA ?_ | refine LOps.storeA ?_)
      exact ⟨_, LRes.sh (LRes.two rfl), rfl, hle⟩
    · have hgt : (lBytes l).length ≤ 16384 := by
        have h : decide (((bL (lBytes l)).length : Int) > 16384) = false := h
        rw [hbb] at h
        simp at h; omega
      have he : encS l = (lBytes l, 0) := by unfold encS; rw [if_pos hall, if_pos hgt]
      rw [he]
      repeat (first | refine LOps.nil ?_ | refine andThen_normal ?_ | refine andThen_exit ?_ | refine andThen_ret ?_ | refine inBlock_normal ?_ | refine inBlock_ret ?_ | refine inBlock_here ?_ | refine inBlock_out rfl ?_ | refine LWp.seq ?_ | refine LWp.region ?_ | refine LWp.block ?_ | refine LWp.exit ?_ | refine LWp.ret ?_ | refine LWp.skip ?_ | refine LOps.valA ?_ | refine LOps.outA ?_ | refine LOps.whenA ?_ | refine LOps.pickA ?_ | refine LOps.storeA ?_)
      exact ⟨_, LRes.sh (LRes.two rfl), rfl, hle⟩
end Go.Proofs.Ytbifiagpmoakdaa.LF
