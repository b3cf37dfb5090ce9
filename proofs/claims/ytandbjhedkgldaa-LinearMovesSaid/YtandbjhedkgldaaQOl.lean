/- The walk of the law 'OmapPlays'. -/
import Derived.Test.YtandbjhedkgldaaQOj
import Derived.Test.YtandbjhedkgldaaQOk
namespace Go.Proofs.Ytandbjhedkgldaa.LF
open Go.RowKit
set_option linter.unusedVariables false

theorem LDo.toVal {G : Ctx} {o : Oper} {T : Nat → TV} {S : LS} {r : TV} (h : LDo G o T S (fun r' S' => r' = r ∧ S' = S)) : LVal G o T S r :=
  fun K w a hi hr => upon_mono (fun _ _ ⟨r', v, S', K', h1, h2, h3, h4, e1, e2⟩ => ⟨v, K', h1, by rw [← e1]; exact h2, by rw [← e2]; exact h3, h4⟩) (fun _ _ _ h => h) (h K w a hi hr)
theorem SlAt.keepB {α : Type} {f : α → List LV} {z : Nat} {S S' : LS} {Y : LV} {m : List α} (h : ∀ b cs, S.box b = some cs → S'.box b = some cs) (k : SlAt f z S Y m) : SlAt f z S' Y m := by
  cases k with
  | nil => exact .nil
  | row r c _ rest hr => exact .row r c m rest ⟨h r _ hr.box, hr.room, hr.cap⟩
theorem OM.keepB {S S' : LS} {b : Nat} {X : LV} {l : List Pr} (h : ∀ b cs, S.box b = some cs → S'.box b = some cs) (m : OM S b X l) : OM S' b X l := ⟨h _ _ m.box, m.sl.keepB h, m.ne, m.srt⟩
theorem NewO.new {S0 S : LS} {b c : Nat} {X : LV} {l : List Pr} (h : NewO S0 S b X) (m : OM S b X l) (hf : S.fresh c) (cs : List LV) :
    ∃ S1, S0.le S1 ∧ S1.box c = some cs ∧ NewO S1 (S.newBox c cs) b X ∧ OM (S.newBox c cs) b X l := by
  have hle := LS.le.newBox (.refl S) hf cs
  have h0 : S0.box c = none := h.le.none hf
  have hS0 : S0.le (S0.setBox c cs) := ⟨fun x y hx => (box_set_ne S0 cs (fun e => by rw [e, h0] at hx; cases hx)).trans hx, fun _ _ h => h, fun _ _ h => h, Nat.le_refl _⟩
  obtain ⟨e1, e2⟩ := m.noBlock hf.box
  refine ⟨S0.setBox c cs, hS0, box_set _ _ _, ⟨⟨fun x y hx => ?_, fun x y hx => hle.row x y (h.le.row x y hx), fun x y hx => hle.obj x y (h.le.obj x y hx), Nat.le_trans h.le.top hle.top⟩, (box_set_ne S0 cs e1).trans h.nb, fun x hx => ?_⟩, m.le hle⟩
  · by_cases e : x = c
    · subst e
      rw [box_set] at hx; rw [← hx]; exact box_new _ _ _
    · rw [box_set_ne S0 cs e] at hx
      exact hle.box x y (h.le.box x y hx)
  · rw [box_set_ne S0 cs (fun e => e2 (by rw [← e]; exact hx))]; exact h.nx x hx
theorem NewO.set {S0 S : LS} {b c : Nat} {X : LV} {l : List Pr} {old : List LV} (h : NewO S0 S b X) (m : OM S b X l) (hc : S0.box c = some old) (cs : List LV) : NewO (S0.setBox c cs) (S.setBox c cs) b X ∧ OM (S.setBox c cs) b X l := by
  have e1 : b ≠ c := fun e => by rw [← e, h.nb] at hc; cases hc
  have e2 : blockOf X ≠ some c := fun e => by rw [h.nx c e] at hc; cases hc
  refine ⟨⟨⟨fun x y hx => ?_, h.le.row, h.le.obj, h.le.top⟩, (box_set_ne S0 cs e1).trans h.nb, fun x hx => ?_⟩, m.setOther e1 e2 cs⟩
  · by_cases e : x = c
    · subst e
      rw [box_set] at hx ⊢; exact hx
    · rw [box_set_ne S0 cs e] at hx
      rw [box_set_ne S cs e]; exact h.le.box x y hx
  · rw [box_set_ne S0 cs (fun e => e2 (by rw [← e]; exact hx))]; exact h.nx x hx

/-- Where what is in a map comes from. -/
theorem mem_newP {l : List Pr} {p : Pr} : p ∈ newP l → p ∈ l := by
  have : ∀ (l m : List Pr), Srt m → p ∈ l.foldl (fun m p => setP m p.key p.val) m → p ∈ m ∨ p ∈ l := by
    intro l
    induction l with
    | nil => exact fun m _ h => .inl h
    | cons q l ih =>
      intro m hm h
      rcases ih _ (hm.set _ _) h with h1 | h1
      · rcases (mem_setP hm _ _ _).1 h1 with h2 | h2
        · exact .inr (by rw [h2]; simp)
        · exact .inl h2.1
      · exact .inr (List.mem_cons_of_mem _ h1)
  intro h
  rcases this l [] .nil h with h1 | h1
  · cases h1
  · exact h1
theorem mem_stepsW {p : Pr} : ∀ (ws : List Wr) {l : List Pr}, Srt l → p ∈ ws.foldl stepW l → p ∈ l ∨ ∃ w ∈ ws, p = ⟨w.key, w.val⟩
  | [], l, _, h => .inl h
  | w :: ws, l, hs, h => by
    rcases mem_stepsW ws (stepW_srt hs w) h with h1 | ⟨x, h1, h2⟩
    · unfold stepW at h1
      split at h1
      · exact .inl ((mem_dropP hs _ _).1 h1).1
      · rcases (mem_setP hs _ _ _).1 h1 with h2 | h2
        · exact .inr ⟨w, by simp, h2⟩
        · exact .inl h2.1
    · exact .inr ⟨x, List.mem_cons_of_mem _ h1, h2⟩
theorem mem_doM {l : List Pr} {o : OpV} {p : Pr} (hs : Srt l) (h : p ∈ doM l o) : p ∈ l ∨ p = ⟨o.key, o.val⟩ ∨ ∃ w ∈ o.writes, p = ⟨w.key, w.val⟩ := by
  unfold doM at h
  split at h
  · split at h
    · rcases (mem_setP hs _ _ _).1 h with h2 | h2
      · exact .inr (.inl h2)
      · exact .inl h2.1
    · split at h
      · exact .inl ((mem_dropP hs _ _).1 h).1
      · split at h
        · split at h
          · rcases (mem_setP hs _ _ _).1 h with h2 | h2
            · exact .inr (.inl h2)
            · exact .inl h2.1
          · exact .inl h
        · split at h
          · rcases mem_stepsW _ hs h with h1 | h1
            · exact .inl h1
            · exact .inr (.inr h1)
          · exact .inl h
  · exact .inl h
def Small5 (l : List Pr) : Prop := ∀ p ∈ l, p.key.size ≤ 500 ∧ p.val.size ≤ 500
theorem Small5.newP {l : List Pr} (h : Small5 l) : Small5 (newP l) := fun p hp => h p (mem_newP hp)
theorem Small5.doM {l : List Pr} {o : OpV} (hs : Srt l) (h : Small5 l) (ho : FineO o) : Small5 (doM l o) := fun p hp => by
  rcases mem_doM hs hp with h1 | h1 | ⟨w, h1, h2⟩
  · exact h p h1
  · rw [h1]; exact ⟨ho.key, ho.val⟩
  · rw [h2]; exact ho.ws w h1
theorem Small5.alike {w l : List Pr} (h : Small5 l) (ha : Alike w l) : SmallW w := fun p hp => by
  have := h p ((ha.mem p).1 hp)
  omega
/-- What is there behind the first operations. -/
def runM (l : List Pr) (ops : List OpV) : List Pr := ops.foldl doM l
def runW (w : List Pr) (ops : List OpV) : List Pr := ops.foldl doW w
theorem runM_take {l : List Pr} {ops : List OpV} {j : Nat} (h : j < ops.length) : runM l (ops.take (j + 1)) = doM (runM l (ops.take j)) ops[j] := by
  unfold runM
  rw [List.take_succ_eq_append_getElem h, List.foldl_append]; rfl
theorem runW_take {l : List Pr} {ops : List OpV} {j : Nat} (h : j < ops.length) : runW l (ops.take (j + 1)) = doW (runW l (ops.take j)) ops[j] := by
  unfold runW
  rw [List.take_succ_eq_append_getElem h, List.foldl_append]; rfl
theorem runM_length : ∀ (ops : List OpV) (l : List Pr), (runM l ops).length ≤ l.length + 8 * ops.length
  | [], l => by simp [runM]
  | o :: ops, l => by
    have h1 := runM_length ops (doM l o)
    have h2 := doM_length l o
    unfold runM at h1 ⊢
    rw [List.foldl_cons, List.length_cons]; omega
theorem Alike.run : ∀ (ops : List OpV) {w l : List Pr}, Alike w l → Alike (runW w ops) (runM l ops)
  | [], _, _, h => h
  | o :: ops, _, _, h => Alike.run ops (h.doO o)
theorem Small5.run : ∀ (ops : List OpV) {l : List Pr}, Srt l → Small5 l → (∀ o ∈ ops, FineO o) → Small5 (runM l ops)
  | [], _, _, h, _ => h
  | o :: ops, _, hs, h, ho => Small5.run ops (doM_srt hs o) (h.doM hs (ho o (by simp))) fun x hx => ho x (List.mem_cons_of_mem _ hx)
theorem sameP_self (l : List Pr) : sameP l l = true := decide_eq_true rfl
theorem sameT_F {G G' : Ctx} (hP : G.P = Try.prog) (e : G'.P = G.P) (l : List Pr) (hl : l.length ≤ 1000000) : LFun G' 16 [.one (.sl .sh (l.map prL)), .one (.sl .sh (l.map prL))] (.one (bv true)) := by
  have := sameP_F (G := G') (e.trans hP) l l hl
  rwa [sameP_self] at this
theorem ans_ne (a : Ans) : (!eqAns a a) = false := by rw [eqAns_iff]; simp

end Go.Proofs.Ytandbjhedkgldaa.LF

namespace Go.Proofs.Ytandbjhedkgldaa
open Go.RowKit LF
end Go.Proofs.Ytandbjhedkgldaa
