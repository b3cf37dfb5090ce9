/- Histories: a history as an object; put, New, Begin, Mark, End, Events. -/
import Derived.Test.YtandbjhedkgldaaQHc
namespace Go.Proofs.Ytandbjhedkgldaa.LF.H
open Go.RowKit
abbrev evT : TypeId := 40

/-- A history, whose blocks lie in F. -/
structure Hist (S : LS) (F : Nat → Prop) (b : Nat) (w : List Ev) (f : Int → Kn) : Prop where
  ex : ∃ m o al, S.box b = some [.sl o (w.map evL), .v (.map (some m))] ∧ MapAt S m al ∧ Owned S evT w.length o ∧ Rules al f ∧ F b ∧ F m ∧ ∀ x, o = .own x → F x
  top : ∀ x, F x → x < S.top

def grow (F : Nat → Prop) (S S' : LS) (x : Nat) : Prop := F x ∨ newIn S S' x

theorem Hist.only {S S' : LS} {F F2 : Nat → Prop} {b : Nat} {w : List Ev} {f : Int → Kn} (h : Hist S F b w f) (k : S.only F2 S') (hd : ∀ x, F x → ¬ F2 x) : Hist S' F b w f := by
  obtain ⟨m, o, al, h1, h2, h3, h4, h5, h6, h7⟩ := h.ex
  exact ⟨⟨m, o, al, k.box _ _ (hd _ h5) h1, h2.only k (hd _ h6), h3.only k (fun x hx => hd _ (h7 x hx)), h4, h5, h6, h7⟩, fun x hx => Nat.lt_of_lt_of_le (h.top x hx) k.top⟩
theorem Hist.le {S S' : LS} {F : Nat → Prop} {b : Nat} {w : List Ev} {f : Int → Kn} (h : Hist S F b w f) (k : S.le S') : Hist S' F b w f := h.only (k.only fun _ => False) fun _ _ h => h
theorem Hist.grow {S S' : LS} {F : Nat → Prop} {b : Nat} {w : List Ev} {f : Int → Kn} (h : Hist S' F b w f) : Hist S' (grow F S S') b w f := by
  obtain ⟨m, o, al, h1, h2, h3, h4, h5, h6, h7⟩ := h.ex
  refine ⟨⟨m, o, al, h1, h2, h3, h4, .inl h5, .inl h6, fun x hx => .inl (h7 x hx)⟩, fun x hx => ?_⟩
  rcases hx with hx | hx
  · exact h.top x hx
  · exact hx.2

/-- What put makes of a history. -/
def PutPost (S : LS) (F : Nat → Prop) (b : Nat) (w : List Ev) (f : Int → Kn) (e : Ev) (r : TV) (S' : LS) : Prop :=
  S.only F S' ∧ match takesS (f e.id) e with
    | none => r = .one (iv 31) ∧ Hist S' (grow F S S') b w f
    | some k => r = .one (iv 0) ∧ Hist S' (grow F S S') b (w ++ [e]) fun j => if j = e.id then k else f j

theorem Hist.mono {S : LS} {F F' : Nat → Prop} {b : Nat} {w : List Ev} {f : Int → Kn} (h : Hist S F b w f) (hf : ∀ x, F x → F' x) (ht : ∀ x, F' x → x < S.top) : Hist S F' b w f := by
  obtain ⟨m, o, al, h1, h2, h3, h4, h5, h6, h7⟩ := h.ex
  exact ⟨⟨m, o, al, h1, h2, h3, h4, hf _ h5, hf _ h6, fun x hx => hf _ (h7 x hx)⟩, ht⟩

theorem PutPost.le {S S1 S' : LS} {F : Nat → Prop} {b : Nat} {w : List Ev} {f : Int → Kn} {e : Ev} {r : TV} (hle : S.le S1) (hF : ∀ x, F x → x < S.top) (h : PutPost S1 F b w f e r S') : PutPost S F b w f e r S' := by
  obtain ⟨h1, h2⟩ := h
  have hg : ∀ x, grow F S1 S' x → grow F S S' x := fun x hx => hx.imp id fun hx => ⟨Nat.le_trans hle.top hx.1, hx.2⟩
  have ht : ∀ x, grow F S S' x → x < S'.top := fun x hx => by
    rcases hx with hx | hx
    · exact Nat.lt_of_lt_of_le (hF x hx) (Nat.le_trans hle.top h1.top)
    · exact hx.2
  refine ⟨(hle.only F).trans h1, ?_⟩
  cases hk : takesS (f e.id) e with
  | none =>
    rw [hk] at h2
    exact ⟨h2.1, h2.2.mono hg ht⟩
  | some k =>
    rw [hk] at h2
    exact ⟨h2.1, h2.2.mono hg ht⟩

end Go.Proofs.Ytandbjhedkgldaa.LF.H
