/- A slice of bytes that came in: what a walk is told of it. -/
import Derived.Test.YtffeegpjnibdnaaProg
import Derived.WalkKit
import Derived.ProofKit
import Derived.OpenShut
namespace Go.Proofs.Ytffeegpjnibdnaa
open Go.RowKit Go.WideShapes Go.ChangeShapes

/-- The slice's elements are these bytes; where there is one, they lie in one block, from a place on. -/
def IsBytes (w : World) (a : Option Addr) (len : Nat) (zs : List Nat) : Prop :=
  zs.length = len ∧ (∀ x ∈ zs, x < 256) ∧ (0 < len → ∃ b off, a = some ⟨b, off, none⟩ ∧ b < w.heap.size ∧ ∀ k, k < len → w.cell? ⟨b, off + k, none⟩ = some (.int .u8 (zs.getD k 0 : Nat)))
theorem IsBytes.later {w v : World} {a : Option Addr} {len : Nat} {zs : List Nat} (h : IsBytes w a len zs) (hb : Below w.heap.size w v) : IsBytes v a len zs := by
  refine ⟨h.1, h.2.1, fun h0 => ?_⟩
  obtain ⟨b, off, ha, hlt, hc⟩ := h.2.2 h0
  exact ⟨b, off, ha, Nat.lt_of_lt_of_le hlt hb.size, fun k hk => by rw [hb.cell (p := ⟨b, off + k, none⟩) hlt]; exact hc k hk⟩
theorem block_of_cell {w : World} {b o : Nat} {v : Value} (h : w.cell? ⟨b, o, none⟩ = some v) : b < w.heap.size := by
  unfold World.cell? at h
  rcases Nat.lt_or_ge b w.heap.size with k | k
  · exact k
  · rw [Array.getElem?_eq_none k] at h; cases h
theorem add_spot {b off k : Nat} : (⟨b, off, none⟩ : Addr).add k = ⟨b, off + k, none⟩ := by
  unfold Addr.add; split <;> simp_all
theorem open_bytes {H : Type} {enc : TypeId × Value → H} {w : World} {t e : TypeId} {a : Option Addr} {len cap : Nat} {x : DataW H} {ps : List MemPlace}
    (ht : Try.prog.underlying t = some (.slice e)) (he : Try.prog.underlying e = some (.int .u8)) (hc : Try.prog.cellsOf e = 1)
    (h : DataW.Trod enc Try.prog w 0 (fun _ => true) true t (.slice a len cap) x ps) : ∃ zs, IsBytes w a len zs := by
  obtain ⟨fuel, hf⟩ := h
  rcases open_ints ht he hc hf with ⟨h0, _⟩ | ⟨ad, len', cap', zs, hcs, _, hl, hm, hz, _, hcell, hwz⟩
  · simp [Value.cells] at h0
    obtain ⟨rfl, rfl, rfl⟩ := h0
    exact ⟨[], rfl, by simp, fun h => absurd h (by omega)⟩
  · simp [Value.cells] at hcs
    obtain ⟨rfl, rfl, rfl⟩ := hcs
    have hz' : zs.length = cap := by simpa using hz
    refine ⟨(zs.take len).map Int.toNat, by simp; omega, ?_, fun h0 => ?_⟩
    · intro x hx
      obtain ⟨n, hn, rfl⟩ := List.mem_map.1 hx
      have := bounds_u8 (hwz n (List.mem_of_mem_take hn))
      omega
    · obtain ⟨b, off, spot⟩ := ad
      have h1 := hcell 0 (by omega)
      have hs : spot = none := by
        have := World.cell?_spot h1
        unfold Addr.add at this
        split at this <;> simp_all
      subst hs
      refine ⟨b, off, rfl, ?_, fun k hk => ?_⟩
      · rw [add_spot] at h1; exact block_of_cell h1
      · have := hcell k (by omega)
        rw [add_spot] at this
        rw [this]
        have hk' : k < zs.length := by omega
        have hb := bounds_u8 (hwz zs[k] (List.getElem_mem hk'))
        simp only [List.getD_eq_getElem?_getD, List.getElem?_map, List.getElem?_take, if_pos hk, List.getElem?_eq_getElem hk', Option.map_some, Option.getD_some]
        congr 2
        omega
end Go.Proofs.Ytffeegpjnibdnaa
