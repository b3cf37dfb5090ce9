/- Maps, further words: All as a value; two maps beside one another; which keys an operation names. -/
import Derived.Test.YtndcdmmmfplbbaaLOl
import Derived.Test.YtndcdmmmfplbbaaLFr2
set_option linter.unusedVariables false
set_option linter.unusedSimpArgs false
namespace Go.Proofs.Ytndcdmmmfplbbaa.LF
open Go.RowKit
set_option linter.unusedVariables false

theorem Frz.one {α : Type} {f : α → List LV} {z : Nat} (hz : ∀ x, (f x).length = z) {S : LS} {X : LV} {l : List α} (h : SlAt f z S X l) :
    ∃ S2, Frz S (.one X) S2 (.one (.sl .sh (l.map f))) ∧ (∀ c cs, S.box c = some cs → blockOf X ≠ some c → S2.box c = some cs) ∧ (∀ b x, S.row b = some x → S2.row b = some x) ∧ (∀ b x, S.obj b = some x → S2.obj b = some x) ∧ S.top ≤ S2.top := by
  cases h with
  | nil => exact ⟨S, fun G K w v h1 h2 => ⟨K, h1, .one h2.of_one.share, .refl _ _⟩, fun c cs h _ => h, fun _ _ h => h, fun _ _ h => h, Nat.le_refl _⟩
  | row r c _ rest hr =>
    have hcap := hr.cap
    have hpart : Part (cellsR f l ++ rest) 0 c z (l.map f) := ⟨fun e he => by
        obtain ⟨x, _, rfl⟩ := List.mem_map.1 he
        exact hz x, by rw [List.drop_zero, List.length_map, ← cellsR_length hz, List.take_left]; rfl, by rw [Nat.zero_add, List.length_map, ← cellsR_length hz, List.length_append]; exact Nat.le_add_right _ _, by rw [List.length_map]; exact hcap⟩
    refine ⟨S.delBox r, fun G K w v h1 h2 => ?_, fun d cs hd hne => (box_del_ne S (fun e => hne (by rw [e]; rfl))).trans hd, fun _ _ h => h, fun _ _ h => h, Nat.le_refl _⟩
    obtain ⟨j1, j2⟩ := h1.freeze hr.box
    refine ⟨_, j1, ?_, j2⟩
    rw [h2.flat]
    have := hpart.rep (G' := G) h1 hr.box j2 (fun j hj => .inr ⟨rfl, hj⟩) rfl
    rw [List.length_map] at this
    exact .one this

/-- All, as a value that stays. -/
theorem allV_L {G : Ctx} (hP : G.P = Try.prog) (l : List Pr) (hl : l.length ≤ 1000000) (b : Nat) (X : LV) (S : LS) (m : OM S b X l) :
    LCalls G 14 [ptr b] (fun r S' => r = .one (.sl .sh (l.map prL)) ∧ S' = S) S := by
  have h1 : LCalls G 14 [ptr b] (fun r S' => S.le S' ∧ r = .one (.sl .sh (l.map prL))) S := by
    refine (all_L hP l hl b X S m).frz fun r S' ⟨Y, e, hY, hle, hn⟩ => ?_
    obtain ⟨S2, f1, b1, r1, o1, t1⟩ := Frz.one prL_len hY
    refine ⟨_, S2, e ▸ f1, ⟨fun c cs hc => b1 c cs (hle.box c cs hc) (fun e => by rw [hn c e] at hc; cases hc), fun c x hc => r1 c x (hle.row c x hc), fun c x hc => o1 c x (hle.obj c x hc), Nat.le_trans hle.top t1⟩, rfl⟩
  intro K w vals i1 i2
  exact (LCalls.forget (Q := fun r _ => r = .one (.sl .sh (l.map prL))) h1 K w vals i1 i2).mono fun e w' ⟨r, v, S', K', e1, e2, e3, e4, e5, e6⟩ => ⟨r, v, S', K', e1, e2, e3, e4, e6, e5⟩

/-- Two maps apart. -/
structure Two (b : Nat) (X : LV) (b2 : Nat) (Y : LV) : Prop where
  ne : b2 ≠ b
  xb : blockOf X ≠ some b2
  yb : blockOf Y ≠ some b
  xy : ∀ r, blockOf Y = some r → blockOf X ≠ some r
theorem Two.symm {b b2 : Nat} {X Y : LV} (h : Two b X b2 Y) : Two b2 Y b X := ⟨h.ne.symm, h.yb, h.xb, fun r hr e => h.xy r e hr⟩
theorem Two.mv {S S' : LS} {b b2 : Nat} {X X' Y : LV} {m : List Pr} (h : Two b X b2 Y) (k : OM S b2 Y m) (mv : MvO S b X S' X') : OM S' b2 Y m ∧ Two b X' b2 Y := by
  refine ⟨OM.apart (l := []) mv k h.ne h.xb h.yb h.xy, h.ne, (mv.box b2 _ k.box h.ne h.xb).2, h.yb, fun r hr => ?_⟩
  obtain ⟨cs, hcs⟩ := k.sl.block r hr
  exact (mv.box r cs hcs (fun e => h.yb (by rw [← e]; exact hr)) (h.xy r hr)).2
theorem Two.of_new {S S' : LS} {b b2 : Nat} {X Y : LV} {l : List Pr} (m : OM S b X l) (nb : S.box b2 = none) (nx : ∀ c, blockOf Y = some c → S.box c = none) : Two b X b2 Y := by
  refine ⟨fun e => ?_, fun e => ?_, fun e => ?_, fun r hr e => ?_⟩
  · rw [e, m.box] at nb; cases nb
  · obtain ⟨cs, hcs⟩ := m.sl.block b2 e
    rw [nb] at hcs; cases hcs
  · have := nx b e; rw [m.box] at this; cases this
  · obtain ⟨cs, hcs⟩ := m.sl.block r e
    rw [nx r hr] at hcs; cases hcs
theorem NewO.other {S0 S S' : LS} {b2 : Nat} {Y : LV} (h : NewO S0 S b2 Y) (k : S0.le S') : NewO S0 S' b2 Y := ⟨k, h.nb, h.nx⟩
theorem NewO.put2 {S0 S : LS} {b b2 c : Nat} {X Y : LV} {l l2 : List Pr} (h : NewO S0 S b X) (m : OM S b X l) (h2 : NewO S0 S b2 Y) (m2 : OM S b2 Y l2) (hf : S.fresh c) (z cs : List LV) :
    ∃ S1, S0.le S1 ∧ S1.box c = some cs ∧ NewO S1 ((S.newBox c z).setBox c cs) b X ∧ OM ((S.newBox c z).setBox c cs) b X l ∧ NewO S1 ((S.newBox c z).setBox c cs) b2 Y ∧ OM ((S.newBox c z).setBox c cs) b2 Y l2 := by
  have hle := (LS.le.newBox (.refl S) hf z).setBox hf.box cs
  have h0 : S0.box c = none := h.le.none hf
  have hS0 : S0.le (S0.setBox c cs) := ⟨fun x y hx => (box_set_ne S0 cs (fun e => by rw [e, h0] at hx; cases hx)).trans hx, fun _ _ h => h, fun _ _ h => h, Nat.le_refl _⟩
  obtain ⟨e1, e2⟩ := m.noBlock hf.box
  obtain ⟨e3, e4⟩ := m2.noBlock hf.box
  have hL : (S0.setBox c cs).le ((S.newBox c z).setBox c cs) := ⟨fun x y hx => by
    by_cases e : x = c
    · subst e
      rw [box_set] at hx ⊢; exact hx
    · rw [box_set_ne S0 cs e] at hx
      exact hle.box x y (h.le.box x y hx), fun x y hx => hle.row x y (h.le.row x y hx), fun x y hx => hle.obj x y (h.le.obj x y hx), Nat.le_trans h.le.top hle.top⟩
  refine ⟨S0.setBox c cs, hS0, box_set _ _ _, ⟨hL, (box_set_ne S0 cs e1).trans h.nb, fun x hx => ?_⟩, m.le hle, ⟨hL, (box_set_ne S0 cs e3).trans h2.nb, fun x hx => ?_⟩, m2.le hle⟩
  · rw [box_set_ne S0 cs (fun e => e2 (by rw [← e]; exact hx))]; exact h.nx x hx
  · rw [box_set_ne S0 cs (fun e => e4 (by rw [← e]; exact hx))]; exact h2.nx x hx

/-- The keys that an operation names. -/
def keysO (o : OpV) : List ByteArray := if o.kind = 6 then o.writes.map (·.key) else [o.key]
def namesS (o : OpV) (k : ByteArray) : Bool := (keysO o).any fun x => decide (x = k)
theorem namesS_iff (o : OpV) (k : ByteArray) : namesS o k = true ↔ k ∈ keysO o := by simp [namesS]
def Agree (ks : List ByteArray) (l m : List Pr) : Prop := ∀ k ∈ ks, getP l k = getP m k

theorem getP_step {l : List Pr} (h : Srt l) (w : Wr) (k : ByteArray) : getP (stepW l w) k = if k = w.key then (if w.gone then none else some w.val) else getP l k := by
  unfold stepW
  split
  · rw [getP_drop h]
  · rw [getP_set h]
theorem getP_steps_out : ∀ (ws : List Wr) {l : List Pr}, Srt l → ∀ k, (∀ w ∈ ws, w.key ≠ k) → getP (ws.foldl stepW l) k = getP l k
  | [], _, _, _, _ => rfl
  | w :: ws, l, hs, k, h => by
    rw [List.foldl_cons, getP_steps_out ws (stepW_srt hs w) k fun x hx => h x (List.mem_cons_of_mem _ hx), getP_step hs, if_neg fun e => h w (by simp) e.symm]
theorem getP_steps_in : ∀ (ws : List Wr) {l m : List Pr}, Srt l → Srt m → ∀ k, getP l k = getP m k → getP (ws.foldl stepW l) k = getP (ws.foldl stepW m) k
  | [], _, _, _, _, _, h => h
  | w :: ws, l, m, hl, hm, k, h => by
    rw [List.foldl_cons, List.foldl_cons]
    refine getP_steps_in ws (stepW_srt hl w) (stepW_srt hm w) k ?_
    rw [getP_step hl, getP_step hm, h]
/-- What an operation does not name stays. -/
theorem getP_doM_out {l : List Pr} (h : Srt l) (o : OpV) {k : ByteArray} (hk : k ∉ keysO o) : getP (doM l o) k = getP l k := by
  unfold doM
  split
  · by_cases h6 : o.kind = 6
    · have hk' : ∀ w ∈ o.writes, w.key ≠ k := fun w hw e => hk (by rw [keysO, if_pos h6]; exact List.mem_map.2 ⟨w, hw, e⟩)
      rw [if_neg (by omega), if_neg (by omega), if_neg (by omega), if_pos h6, getP_steps_out _ h k hk']
    · have hne : k ≠ o.key := fun e => hk (by rw [keysO, if_neg h6, e]; simp)
      split
      · rw [getP_set h, if_neg hne]
      · split
        · rw [getP_drop h, if_neg hne]
        · split
          · split
            · rw [getP_set h, if_neg hne]
            · rfl
          · rfl
  · rfl
theorem oldP_of {l m : List Pr} {k : ByteArray} (h : getP l k = getP m k) : oldP l k = oldP m k ∧ hasP l k = hasP m k := by
  constructor
  · unfold oldP; rw [h]
  · rw [getP_has, getP_has, h]
theorem doneO_of {l m : List Pr} {o : OpV} (h : getP l o.key = getP m o.key) : doneO l o = doneO m o := by
  unfold doneO; rw [(oldP_of h).1, (oldP_of h).2]
/-- What it tells, and makes of what it names, hangs on what it names. -/
theorem doA_agree {l m : List Pr} (o : OpV) (h5 : o.kind ≠ 5) (h : Agree (keysO o) l m) : doA l o = doA m o := by
  unfold doA
  split
  · by_cases h6 : o.kind = 6
    · simp [h6]
    · have hk := h o.key (by rw [keysO, if_neg h6]; simp)
      rw [(oldP_of hk).1, (oldP_of hk).2, doneO_of hk]
  · rfl
theorem doM_agree {l m : List Pr} (hl : Srt l) (hm : Srt m) (o : OpV) (h : Agree (keysO o) l m) : Agree (keysO o) (doM l o) (doM m o) := fun k hk => by
  have hg := h k hk
  unfold doM
  split
  · by_cases h6 : o.kind = 6
    · rw [if_neg (by omega), if_neg (by omega), if_neg (by omega), if_pos h6, if_neg (by omega), if_neg (by omega), if_neg (by omega), if_pos h6]
      exact getP_steps_in _ hl hm k hg
    · have hk2 : k = o.key := by rw [keysO, if_neg h6] at hk; simpa using hk
      subst hk2
      have hd := doneO_of hg
      split
      · rw [getP_set hl, getP_set hm, if_pos rfl, if_pos rfl]
      · split
        · rw [getP_drop hl, getP_drop hm, if_pos rfl, if_pos rfl]
        · split
          · rw [hd]
            split
            · rw [getP_set hl, getP_set hm, if_pos rfl, if_pos rfl]
            · exact hg
          · exact hg
  · exact hg
/-- Operations of other keys may change places. -/
theorem doM_swap {l : List Pr} (hl : Srt l) (x y : OpV) (h : ∀ k, k ∈ keysO x → k ∉ keysO y) : doM (doM l x) y = doM (doM l y) x := by
  refine Srt.ext_get (doM_srt (doM_srt hl x) y) (doM_srt (doM_srt hl y) x) fun k => ?_
  by_cases hx : k ∈ keysO x
  · have hy := h k hx
    rw [getP_doM_out (doM_srt hl x) y hy]
    exact doM_agree hl (doM_srt hl y) x (fun k' hk' => (getP_doM_out hl y (h k' hk')).symm) k hx
  · rw [getP_doM_out (doM_srt hl y) x hx]
    by_cases hy : k ∈ keysO y
    · exact doM_agree (doM_srt hl x) hl y (fun k' hk' => getP_doM_out hl x fun hk2 => h k' hk2 hk') k hy
    · rw [getP_doM_out (doM_srt hl x) y hy, getP_doM_out hl x hx, getP_doM_out hl y hy]
theorem doA_swap {l : List Pr} (hl : Srt l) (x y : OpV) (h5 : y.kind ≠ 5) (h : ∀ k, k ∈ keysO x → k ∉ keysO y) : doA (doM l x) y = doA l y :=
  doA_agree y h5 fun k hk => getP_doM_out hl x fun hk2 => h k hk2 hk
theorem mem_doM_out {l : List Pr} (hl : Srt l) (o : OpV) {p : Pr} (h : namesS o p.key = false) : p ∈ doM l o ↔ p ∈ l := by
  have hk : p.key ∉ keysO o := fun hk => by rw [(namesS_iff o p.key).2 hk] at h; cases h
  have := getP_doM_out hl o hk
  have e1 := mem_getP (doM_srt hl o) p.key p.val
  have e2 := mem_getP hl p.key p.val
  rw [this] at e1
  exact e1.symm.trans e2
end Go.Proofs.Ytndcdmmmfplbbaa.LF
