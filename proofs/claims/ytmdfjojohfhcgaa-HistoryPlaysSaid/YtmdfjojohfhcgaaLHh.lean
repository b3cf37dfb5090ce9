/- What the arguments of the histories' laws are. -/
import Derived.Test.YtmdfjojohfhcgaaLHa
import Derived.Test.YtmdfjojohfhcgaaLFs
set_option linter.unusedVariables false
set_option linter.unusedSimpArgs false
namespace Go.Proofs.Ytmdfjojohfhcgaa.LF
open Go.RowKit

theorem typed_wr {l : List LV} (h : Typed D 43 l) : ∃ x : Wr, l = wrL x := by
  obtain ⟨h1, h2⟩ := typed_struct rfl rfl h
  obtain ⟨a, b, c, rfl⟩ : ∃ a b c, l = [a, b, c] := by
    match l, h1 with
    | [a, b, c], _ => exact ⟨a, b, c, rfl⟩
  obtain ⟨x, e1, _⟩ := typed_str rfl rfl (h2 0 _ _ rfl rfl)
  obtain ⟨y, e2, _⟩ := typed_str rfl rfl (h2 1 _ _ rfl rfl)
  obtain ⟨z, e3⟩ := typed_bool rfl rfl (h2 2 _ _ rfl rfl)
  cases e1; cases e2; cases e3
  exact ⟨⟨x, y, z⟩, rfl⟩

theorem typed_ws {l : List LV} (h : Typed D 27 l) : ∃ ws : List Wr, l = [.sl .sh (ws.map wrL)] := by
  obtain ⟨es, rfl, h2, _⟩ := typed_slice rfl rfl rfl h
  obtain ⟨ws, rfl⟩ := typed_all h2 fun c hc => typed_wr hc
  exact ⟨ws, rfl⟩

theorem typed_ev {l : List LV} (h : Typed D 34 l) : ∃ x : Ev, l = evL x := by
  obtain ⟨h1, h2⟩ := typed_struct rfl rfl h
  obtain ⟨a, b, c, d, e, f, g, p, q, r, s, t, u, rfl⟩ : ∃ a b c d e f g p q r s t u, l = [a, b, c, d, e, f, g, p, q, r, s, t, u] := by
    match l, h1 with
    | [a, b, c, d, e, f, g, p, q, r, s, t, u], _ => exact ⟨a, b, c, d, e, f, g, p, q, r, s, t, u, rfl⟩
  obtain ⟨x1, e1, _⟩ := typed_int rfl rfl (h2 0 _ _ rfl rfl)
  obtain ⟨x2, e2, _⟩ := typed_int rfl rfl (h2 1 _ _ rfl rfl)
  obtain ⟨_, o2⟩ := typed_struct rfl rfl (h2 2 _ _ rfl rfl)
  obtain ⟨_, a2⟩ := typed_struct rfl rfl (h2 3 _ _ rfl rfl)
  obtain ⟨x3, e3, _⟩ := typed_int rfl rfl (o2 0 _ _ rfl rfl)
  obtain ⟨x4, e4, _⟩ := typed_str rfl rfl (o2 1 _ _ rfl rfl)
  obtain ⟨x5, e5, _⟩ := typed_str rfl rfl (o2 2 _ _ rfl rfl)
  obtain ⟨x6, e6, _⟩ := typed_str rfl rfl (o2 3 _ _ rfl rfl)
  obtain ⟨x7, e7⟩ := typed_bool rfl rfl (o2 4 _ _ rfl rfl)
  obtain ⟨x8, e8⟩ := typed_bool rfl rfl (o2 5 _ _ rfl rfl)
  obtain ⟨x9, e9⟩ := typed_ws (o2 6 _ _ rfl rfl)
  obtain ⟨y1, f1, _⟩ := typed_int rfl rfl (a2 0 _ _ rfl rfl)
  obtain ⟨y2, f2⟩ := typed_bool rfl rfl (a2 1 _ _ rfl rfl)
  obtain ⟨y3, f3, _⟩ := typed_str rfl rfl (a2 2 _ _ rfl rfl)
  obtain ⟨y4, f4, _⟩ := typed_str rfl rfl (a2 3 _ _ rfl rfl)
  cases e1; cases e2; cases e3; cases e4; cases e5; cases e6; cases e7; cases e8; cases e9; cases f1; cases f2; cases f3; cases f4
  exact ⟨⟨x1, x2, ⟨x3, x4, x5, x6, x7, x8, x9⟩, ⟨y1, y2, y3, y4⟩⟩, rfl⟩

theorem typed_evs {l : List LV} (h : Typed D 22 l) : ∃ es : List Ev, l = [.sl .sh (es.map evL)] := by
  obtain ⟨es, rfl, h2, _⟩ := typed_slice rfl rfl rfl h
  obtain ⟨ws, rfl⟩ := typed_all h2 fun c hc => typed_ev hc
  exact ⟨ws, rfl⟩
end Go.Proofs.Ytmdfjojohfhcgaa.LF
