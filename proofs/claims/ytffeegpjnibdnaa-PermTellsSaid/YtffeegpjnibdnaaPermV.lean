/- The contract of perm.move: a number is taken out of its place, and put in at another one. -/
import Derived.Test.YtffeegpjnibdnaaPermC
import Derived.Laws.CopyOwn
import Derived.Laws.Rows
set_option linter.unusedVariables false
set_option linter.unusedSimpArgs false
namespace Go.Proofs.Ytffeegpjnibdnaa
open Go.RowKit
set_option linter.unusedVariables false

def rowV (l : List Nat) : List Value := l.map fun (x : Nat) => Value.int .i64 (x : Int)
theorem rowV_length (l : List Nat) : (rowV l).length = l.length := by simp [rowV]
theorem rowV_get (l : List Nat) (j : Nat) (h : j < l.length) : (rowV l)[j]? = some (.int .i64 (l.getD j 0 : Nat)) := by
  rw [rowV, List.getElem?_map, List.getElem?_eq_getElem h, getD_eq h]; rfl
theorem rowV_set (l : List Nat) (k x : Nat) : (rowV l).set k (.int .i64 (x : Int)) = rowV (l.set k x) := by
  simp [rowV, List.map_set]
theorem rowV_one (l : List Nat) : ∀ v ∈ rowV l, v.oneCell' = true := by
  intro v hv
  obtain ⟨x, _, rfl⟩ := List.mem_map.1 hv
  rfl
/-- The first k slots of a word, zeros behind. -/
def part (l : List Nat) (k : Nat) : List Nat := l.take k ++ List.replicate (15 - k) 0
theorem part_length (l : List Nat) (k : Nat) (hl : l.length = 15) (hk : k ≤ 15) : (part l k).length = 15 := by simp [part]; omega
theorem part_set (l : List Nat) (k : Nat) (hl : l.length = 15) (hk : k < 15) : (part l k).set k (l.getD k 0) = part l (k + 1) := by
  unfold part
  rw [List.set_append_right _ _ (by simp; omega), show 15 - k = (15 - (k + 1)) + 1 by omega, List.replicate_succ]
  rw [show k - (l.take k).length = 0 by simp; omega, List.set_cons_zero, List.take_add_one, getD_eq (by omega), List.getElem?_eq_getElem (by omega : k < l.length)]
  rw [List.append_assoc]
  rfl
theorem part_full (l : List Nat) (hl : l.length = 15) : part l 15 = l := by
  unfold part; rw [List.take_of_length_le (by omega)]; simp

theorem run_int_size (w : World) : (sizeOf 3).run Try.prog w = .ok 1 w := by kernel_rfl
theorem arr_is : Try.prog.underlying 50 = some (.array (Try.prog.arrayLen 50) (Try.prog.elem 50)) := by kernel_rfl
theorem arr_len : Try.prog.arrayLen 50 = 15 := by kernel_rfl
theorem arr_elem : Try.prog.elem 50 = 3 := by kernel_rfl
theorem add_at (g k : Nat) : (⟨g, 0, none⟩ : Addr).add k = ⟨g, k, none⟩ := by unfold Addr.add; split <;> simp_all
/-- 'l[i:]' of the array. -/
theorem run_cut_lo (g k : Nat) (i : Int) (hi : i = k) (hk : k < 15) (w : World) :
    Sem.run Try.prog (Instr.sliceAt 50 (.pointer (some ⟨g, 0, none⟩)) (some (.int .i64 i)) none none) w = .ok (.slice (some ⟨g, k, none⟩) (15 - k) (15 - k)) w := by
  subst hi
  rw [run_sliceAt_array_l w 50 ⟨g, 0, none⟩ arr_is .i64 (k : Int) (by omega) (by rw [arr_len]; omega), arr_elem, run_int_size, arr_len]
  unfold slicedAt
  simp only [Result.andThen, Int.toNat_natCast, Nat.mul_one, add_at]
  rw [if_neg (by omega)]
theorem run_cut_end (g : Nat) (i : Int) (hi : i = 15) (w : World) :
    Sem.run Try.prog (Instr.sliceAt 50 (.pointer (some ⟨g, 0, none⟩)) (some (.int .i64 i)) none none) w = .ok (.slice (some ⟨g, 0, none⟩) 0 0) w := by
  subst hi
  rw [run_sliceAt_array_l w 50 ⟨g, 0, none⟩ arr_is .i64 15 (by omega) (by rw [arr_len]; omega), arr_elem, run_int_size, arr_len]
  rfl
/-- 'l[i:14]'. -/
theorem run_cut_14 (g k : Nat) (i : Int) (hi : i = k) (hk : k ≤ 14) (w : World) :
    Sem.run Try.prog (Instr.sliceAt 50 (.pointer (some ⟨g, 0, none⟩)) (some (.int .i64 i)) (some (.int .i64 14)) none) w = .ok (.slice (some ⟨g, k, none⟩) (14 - k) (15 - k)) w := by
  subst hi
  rw [run_sliceAt_array_lh w 50 ⟨g, 0, none⟩ arr_is .i64 .i64 (k : Int) 14 (by omega) (by omega) (by rw [arr_len]; omega), arr_elem, run_int_size, arr_len]
  unfold slicedAt
  simp only [Result.andThen, Int.toNat_natCast, Nat.mul_one, add_at]
  rw [if_neg (by omega)]
  rfl

theorem row_src {w : World} {g : Nat} {l : List Nat} {t : TypeId} {fr : Nat × Nat} (h : w.heap[g]? = some (.cells (rowV l).toArray t fr)) (k : Nat) (hk : k ≤ l.length) :
    ∀ j v, (rowV (l.drop k))[j]? = some v → w.cell? ((⟨g, k, none⟩ : Addr).add j) = some v := by
  intro j v hv
  have hadd : (⟨g, k, none⟩ : Addr).add j = ⟨g, k + j, none⟩ := by unfold Addr.add; split <;> simp_all
  rw [hadd, cell_of_row w g _ _ _ _ h]
  rw [rowV, List.map_drop, List.getElem?_drop] at hv
  simpa [rowV] using hv

theorem run_int_agg (w : World) : (isAgg 3).run Try.prog w = .ok false w := by kernel_rfl
def part_ := Go.part
theorem idx_at (M : List Nat) (hM : M.length = 15) (k : Nat) (hk : k < 15) (w : World) :
    (Instr.index 50 (.agg (rowV M).toArray) (.int .i64 (k : Int))).run Try.prog w = .ok (.int .i64 (M.getD k 0 : Nat)) w := by
  have hg := rowV_get M k (by omega)
  have h1 : (part_ 3 (rowV M).toArray k).run Try.prog w = .ok (.int .i64 (M.getD k 0 : Nat)) w := by
    unfold part_ Go.part
    have e : (rowV M).toArray[k]? = some (.int .i64 (M.getD k 0 : Nat)) := by simpa using hg
    simp only [Sem.run_bind, run_int_agg, Result.andThen, Bool.false_eq_true, if_false, e, Sem.run_pure]
  simp [Instr.index, asIntOf, run_underlying Try.underlying50, Result.andThen, hk]
  exact h1
/-- What the two copies leave. -/
theorem splice1 (l : List Nat) (a : Nat) (hl : l.length = 15) (ha : a < 15) : splice (rowV l) a (rowV (l.drop (a + 1))) = rowV (ers l a ++ l.drop 14) := by
  unfold splice ers rowV
  rw [List.length_map, List.length_drop, show a + (l.length - (a + 1)) = 14 by omega]
  simp
theorem splice2 (E : List Nat) (b : Nat) (hE : E.length = 15) (hb : b < 15) :
    splice (rowV E) (b + 1) (rowV ((E.drop b).take (14 - b))) = rowV (E.take (b + 1) ++ (E.drop b).take (14 - b)) := by
  unfold splice rowV
  rw [List.length_map, List.length_take, List.length_drop]
  have hd : (E.map fun (x : Nat) => Value.int .i64 (x : Int)).drop (b + 1 + min (14 - b) (E.length - b)) = [] := List.drop_of_length_le (by rw [List.length_map]; omega)
  rw [hd]
  simp
theorem splice3' (E : List Nat) (b x : Nat) (hE : E.length = 15) (hb : b < 15) : (E.take (b + 1) ++ (E.drop b).take (14 - b)).set b x = ins (E.take 14) b x := by
  unfold ins
  rw [List.take_take, Nat.min_eq_left (by omega : b ≤ 14), List.take_add_one, List.append_assoc, List.set_append_right _ _ (by simp; omega), List.drop_take]
  rw [show b - (E.take b).length = 0 by simp; omega, List.getElem?_eq_getElem (by omega : b < E.length)]
  rfl
theorem row_src2 {w : World} {g : Nat} {l : List Nat} {t : TypeId} {fr : Nat × Nat} (h : w.heap[g]? = some (.cells (rowV l).toArray t fr)) (k n : Nat) (hk : k ≤ l.length) :
    ∀ j v, (rowV ((l.drop k).take n))[j]? = some v → w.cell? ((⟨g, k, none⟩ : Addr).add j) = some v := by
  intro j v hv
  refine row_src h k hk j v ?_
  rw [rowV, List.map_take, List.getElem?_take] at hv
  split at hv
  · exact hv
  · cases hv

set_option maxHeartbeats 1000000 in
theorem move_any (p a b : Nat) (w : World) (hp : p < 18446744073709551616) (ha : a < 15) (hb : b < 15) :
    Calls Try.prog 21 #[.int .u64 p, .int .i64 a, .int .i64 b] w fun e w' => e = .returned (.int .u64 (wd (p % 16) (mv (slots p) a b))) ∧ Below w.heap.size w w' := by
  obtain ⟨l, hl⟩ : ∃ l, l = slots p := ⟨_, rfl⟩
  have hlen : l.length = 15 := by rw [hl, slots_length]
  have hlt : ∀ x ∈ l, x < 16 := by rw [hl]; exact slots_lt p
  have hat : ∀ k, k < 15 → nib p k = l.getD k 0 := fun k hk => by rw [hl, List.getD_eq_getElem?_getD, slots_get p k hk]; rfl
  rw [← hl]
  have HA := Lib.hid hat
  have HT := Lib.hid hlt
  have HN := Lib.hid hlen
  have h0 : (rowV (part l 0)).toArray = #[Value.int .i64 0, .int .i64 0, .int .i64 0, .int .i64 0, .int .i64 0, .int .i64 0, .int .i64 0, .int .i64 0, .int .i64 0, .int .i64 0, .int .i64 0, .int .i64 0, .int .i64 0, .int .i64 0, .int .i64 0] := by
    simp [rowV, part, List.replicate]
  have H0 := Lib.hid h0
  have HML := Lib.hid (show (mv l a b).length = 15 by rw [mv_length (by rw [hlen]; exact ha) (by rw [hlen]; exact hb), hlen])
  have HMT := Lib.hid (mv_below (b := b) (by rw [hlen]; exact ha : a < l.length) hlt)
  obtain ⟨c, hc⟩ : ∃ c, c = p % 16 := ⟨_, rfl⟩
  have hc16 : c < 16 := by omega
  have H15 := Lib.hid (show bits .and .u64 (p : Int) 15 = (c : Int) by rw [hc]; exact and15' p hp)
  rw [← hc]
  clear hc
  have da : decide ((a : Int) < 15) = true := by simp; omega
  have db : decide ((b : Int) < 15) = true := by simp; omega
  clear hl hlen hlt hat h0
  go_enter Try.func21, Try.ntmps21
  go_wp2
  go_loopw [8, 13] (fun _ i wr => ∃ k : Nat, k ≤ 15 ∧ i = .int .i64 k ∧ wr = w.alloc (.cells (rowV (part l k)).toArray 50)) (fun _ i _ => 15 - (intOf i).toNat)
  case atStart => exact ⟨0, by omega, rfl, by rw [H0.out]⟩
  case round =>
    obtain ⟨k, hk, rfl, rfl⟩ := hrel
    by_cases hlt : k < 15
    · obtain ⟨x, hx⟩ : ∃ x, x = nib p k := ⟨_, rfl⟩
      have Hat : Hid (∀ w, Calls Try.prog 13 #[.int .u64 p, .int .i64 k] w fun e w' => e = .returned (.int .i64 x) ∧ w = w') := Lib.hid fun w => by rw [hx]; exact at_in p k w hp hlt
      have HS : Hid ((rowV (part l k)).set k (.int .i64 (x : Int)) = rowV (part l (k + 1))) := by
        refine Lib.hid ?_
        rw [rowV_set, hx, HA.out k hlt, part_set l k HN.out hlt]
      have hv : (w.alloc (.cells (rowV (part l k)).toArray 50)).cell? ⟨w.heap.size, k, none⟩ = some (.int .i64 ((part l k).getD k 0 : Nat)) := by
        rw [World.cell?_alloc_at _ _ _ _ rfl]
        have := rowV_get (part l k) k (by rw [part_length l k HN.out (by omega)]; exact hlt)
        simpa using this
      clear hx
      go_wp2_with fail
      refine (Hat.out _).mono ?_
      rintro e w' ⟨rfl, rfl⟩
      go_wp2
      go_roundw
      case rel => exact ⟨k + 1, by omega, by go_num, by rw [HS.out]⟩
      case measure => simp [intOf]; omega
    · obtain rfl : k = 15 := by omega
      have HF : Hid (part l 15 = l) := Lib.hid (part_full l HN.out)
      rw [HF.out]
      obtain ⟨w1, hw1⟩ : ∃ w1, w1 = w.alloc (.cells (rowV l).toArray 50) := ⟨_, rfl⟩
      have hb1 : Below w.heap.size w w1 := by rw [hw1]; exact (Below.refl _ _).alloc (Nat.le_refl _) _
      have hg1 : w1.heap[w.heap.size]? = some (.cells (rowV l).toArray 50 (0, 0)) := by rw [hw1]; show (w.heap.push _)[_]? = _; simp
      rw [← hw1]
      have HG1 := Lib.hid hg1
      clear hw1 hg1
      obtain ⟨g, hg⟩ : ∃ g, g = w.heap.size := ⟨_, rfl⟩
      rw [← hg] at HG1 hb1 ⊢
      have HGW := Lib.hid hg
      clear hg
      obtain ⟨x, hxa⟩ : ∃ x, x = l.getD a 0 := ⟨_, rfl⟩
      have hca : w1.cell? ⟨g, a, none⟩ = some (.int .i64 (x : Nat)) := by
        rw [hxa]
        rw [cell_of_row w1 g a _ _ _ HG1.out]
        have := rowV_get l a (by rw [HN.out]; exact ha)
        simpa using this
      have hx16 : x < 16 := by
        rw [hxa, getD_eq (by rw [HN.out]; exact ha)]
        exact HT.out _ (List.getElem_mem _)
      have HX := Lib.hid (show x = l.getD a 0 from hxa)
      clear hxa
      go_wp2
      rcases (show a < 14 ∨ 14 ≤ a from by omega) with ha14 | ha14
      · have e1 : IntKind.i64.wrap ((a : Int) + 1) = (a : Int) + 1 := IntWalk.i64_in _ (by omega)
        have hs1 := run_cut_lo g a (a : Int) rfl ha
        have hs2 := run_cut_lo g (a + 1) ((a : Int) + 1) (by omega) (by omega)
        have HSrc := Lib.hid (row_src HG1.out (a + 1) (by rw [HN.out]; omega))
        have HM := Lib.hid (show (rowV (l.drop (a + 1))).length = Nat.min (15 - (a + 1)) (15 - a) by rw [rowV_length, List.length_drop, HN.out]; exact (Nat.min_eq_left (by omega)).symm)
        have HFit := Lib.hid (show a + (rowV (l.drop (a + 1))).length ≤ (rowV l).length by rw [rowV_length, rowV_length, List.length_drop, HN.out]; omega)
        go_region_law (refine step_copy_splice rfl (.tmp 26) (.tmp 29) 38 38 rfl 3 Try.underlying38 (by kernel_rfl) (some ⟨g, a, none⟩) (some ⟨g, a + 1, none⟩) (15 - a) (15 - a) (15 - (a + 1)) (15 - (a + 1)) (by simp [Act.eval, Act.put]) (by simp [Act.eval, Act.put]) g a (rowV l) 50 HG1.out (rowV (l.drop (a + 1))) HM.out (fun _ => ⟨rfl, _, rfl, HSrc.out⟩) HFit.out (rowV_one _) g w hb1.drew (Nat.le_refl _) ?_; intro w2 HG2 hb2)
        have HE1 := Lib.hid (splice1 l a HN.out ha)
        rw [HE1.out] at HG2
        have HEL := Lib.hid (show (ers l a ++ l.drop 14).length = 15 by rw [List.length_append, ers_length (by rw [HN.out]; exact ha), List.length_drop, HN.out])
        obtain ⟨E, hE⟩ : ∃ E, E = ers l a ++ l.drop 14 := ⟨_, rfl⟩
        have HET : Hid (E.take 14 = ers l a) := Lib.hid (by rw [hE, List.take_left' (by rw [ers_length (by rw [HN.out]; exact ha), HN.out])])
        rw [← hE] at HG2 HEL
        clear hE
        obtain ⟨HV, hHV⟩ : ∃ HV, HV = E.take (b + 1) ++ (E.drop b).take (14 - b) := ⟨_, rfl⟩
        have HSPa := Lib.hid (show splice (rowV E) (b + 1) (rowV ((E.drop b).take (14 - b))) = rowV HV by rw [hHV]; exact splice2 E b HEL.out hb)
        have HSPb := Lib.hid (show HV.set b x = mv l a b by rw [hHV, splice3' E b x HEL.out hb, HET.out, HX.out]; rfl)
        have HVL := Lib.hid (show HV.length = 15 by rw [hHV, List.length_append, List.length_take, List.length_take, List.length_drop, HEL.out]; omega)
        have e2 : IntKind.i64.wrap ((b : Int) + 1) = (b : Int) + 1 := IntWalk.i64_in _ (by omega)
        have hc2 := run_cut_14 g b (b : Int) rfl (by omega)
        have HSrc2 := Lib.hid (row_src2 HG2.out b (14 - b) (by rw [HEL.out]; omega))
        have HFit2 := Lib.hid (show b + 1 + (rowV ((E.drop b).take (14 - b))).length ≤ (rowV E).length by rw [rowV_length, rowV_length, List.length_take, List.length_drop, HEL.out]; omega)
        clear hHV
        go_wp2
        rcases (show b < 14 ∨ 14 ≤ b from by omega) with hb14 | hb14
        · have hc1 := run_cut_lo g (b + 1) ((b : Int) + 1) (by omega) (by omega)
          have HM2 := Lib.hid (show (rowV ((E.drop b).take (14 - b))).length = Nat.min (14 - b) (14 - b) by rw [rowV_length, List.length_take, List.length_drop, HEL.out]; exact (by omega : min (14 - b) (15 - b) = 14 - b).trans (Nat.min_self _).symm)
          go_region_law (refine step_copy_splice rfl (.tmp 33) (.tmp 35) 38 38 rfl 3 Try.underlying38 (by kernel_rfl) (some ⟨g, b + 1, none⟩) (some ⟨g, b, none⟩) (14 - b) (14 - b) (14 - b) (15 - b) (by simp [Act.eval, Act.put]) (by simp [Act.eval, Act.put]) g (b + 1) (rowV E) 50 HG2.out (rowV ((E.drop b).take (14 - b))) HM2.out (fun _ => ⟨rfl, _, rfl, HSrc2.out⟩) HFit2.out (rowV_one _) g w hb2.drew (Nat.le_refl _) ?_; intro w3 HG3 hb3)
          rw [HSPa.out] at HG3
          have hcb : w3.cell? ⟨g, b, none⟩ = some (.int .i64 (HV.getD b 0 : Nat)) := by
            rw [cell_of_row w3 g b _ _ _ HG3.out]
            have := rowV_get HV b (by rw [HVL.out]; exact hb)
            simpa using this
          have hfb : w3.frozen? ⟨g, b, none⟩ = false := frozen_of_row w3 g b _ _ HG3.out
          have HG4 : Hid ((w3.setCell ⟨g, b, none⟩ (.int .i64 (x : Int))).heap[g]? = some (.cells (rowV (mv l a b)).toArray 50 (0, 0))) := by
            refine Lib.hid ?_
            rw [heap_setCell_same w3 g b _ _ _ HG3.out]
            have := HSPb.out
            rw [← this, ← rowV_set]
            simp
          have hb4 := hb3.setCell (p := ⟨g, b, none⟩) (Nat.le_refl _) (.int .i64 (x : Int))
          have hsz : (Try.prog.info? 50).map (·.size) = some (rowV (mv l a b)).toArray.size := by rw [show (rowV (mv l a b)).toArray.size = 15 by rw [List.size_toArray, rowV_length, mv_length (by rw [HN.out]; exact ha) (by rw [HN.out]; exact hb), HN.out]]; kernel_rfl
          have HSZ := Lib.hid hsz
          clear hsz
          go_wp2_with (refine wpList_load_row rfl 50 _ rfl g rfl 50 _ (0, 0) _ HG4.out Try.underlying50 rfl HSZ.out ?_)
          go_loop [10, 11, 12, 43] (fun o _ _ i => ∃ k : Nat, k ≤ 15 ∧ i = .int .i64 k ∧ o = .int .u64 (wd c ((mv l a b).take k))) (fun _ _ _ i => 15 - (intOf i).toNat)
          case atStart => exact ⟨0, by omega, rfl, by rw [H15.out]; rfl⟩
          case round =>
            obtain ⟨k, hk, rfl, rfl⟩ := hrel
            by_cases hlt : k < 15
            · obtain ⟨y, hy⟩ : ∃ y, y = (mv l a b).getD k 0 := ⟨_, rfl⟩
              have hidx := idx_at (mv l a b) HML.out k hlt
              rw [← hy] at hidx
              have hy16 : y < 16 := by
                rw [hy, getD_eq (by rw [HML.out]; exact hlt)]
                exact HMT.out _ (List.getElem_mem _)
              have HO : Hid (bits .or .u64 (wd c ((mv l a b).take k) : Int) (IntKind.u64.wrap ((y : Int) * 2 ^ (4 + 4 * k))) = (wd c ((mv l a b).take (k + 1)) : Int)) := by
                rw [hy]; exact Lib.hid (or_slot c (mv l a b) k hc16 HMT.out HML.out hlt)
              clear hy
              go_wp2
              go_round
              case rel => exact ⟨k + 1, by omega, by go_num, by rw [HO.out]⟩
              case measure => simp [intOf]; omega
            · obtain rfl : k = 15 := by omega
              have HF2 : Hid ((mv l a b).take 15 = mv l a b) := Lib.hid (List.take_of_length_le (by rw [HML.out]; omega))
              rw [HF2.out]
              go_wp2
              go_ret
              exact ⟨rfl, by have hh := HGW.out; rw [← hh]; exact hb4⟩
        · have hc1 := run_cut_end g ((b : Int) + 1) (by omega)
          have HM2 := Lib.hid (show (rowV ((E.drop b).take (14 - b))).length = Nat.min 0 0 by rw [rowV_length, List.length_take, List.length_drop, HEL.out]; exact (by omega : min (14 - b) (15 - b) = 0))
          have HNo := Lib.hid (show ¬ 0 < (rowV ((E.drop b).take (14 - b))).length by rw [HM2.out]; exact fun h => by rw [show Nat.min 0 0 = 0 from rfl] at h; omega)
          go_region_law (refine step_copy_splice rfl (.tmp 33) (.tmp 35) 38 38 rfl 3 Try.underlying38 (by kernel_rfl) (some ⟨g, 0, none⟩) (some ⟨g, b, none⟩) 0 0 0 (15 - b) (by simp [Act.eval, Act.put]) (by simp [Act.eval, Act.put]) g (b + 1) (rowV E) 50 HG2.out (rowV ((E.drop b).take (14 - b))) HM2.out (fun h => absurd h HNo.out) HFit2.out (rowV_one _) g w hb2.drew (Nat.le_refl _) ?_; intro w3 HG3 hb3)
          rw [HSPa.out] at HG3
          have hcb : w3.cell? ⟨g, b, none⟩ = some (.int .i64 (HV.getD b 0 : Nat)) := by
            rw [cell_of_row w3 g b _ _ _ HG3.out]
            have := rowV_get HV b (by rw [HVL.out]; exact hb)
            simpa using this
          have hfb : w3.frozen? ⟨g, b, none⟩ = false := frozen_of_row w3 g b _ _ HG3.out
          have HG4 : Hid ((w3.setCell ⟨g, b, none⟩ (.int .i64 (x : Int))).heap[g]? = some (.cells (rowV (mv l a b)).toArray 50 (0, 0))) := by
            refine Lib.hid ?_
            rw [heap_setCell_same w3 g b _ _ _ HG3.out]
            have := HSPb.out
            rw [← this, ← rowV_set]
            simp
          have hb4 := hb3.setCell (p := ⟨g, b, none⟩) (Nat.le_refl _) (.int .i64 (x : Int))
          have hsz : (Try.prog.info? 50).map (·.size) = some (rowV (mv l a b)).toArray.size := by rw [show (rowV (mv l a b)).toArray.size = 15 by rw [List.size_toArray, rowV_length, mv_length (by rw [HN.out]; exact ha) (by rw [HN.out]; exact hb), HN.out]]; kernel_rfl
          have HSZ := Lib.hid hsz
          clear hsz
          go_wp2_with (refine wpList_load_row rfl 50 _ rfl g rfl 50 _ (0, 0) _ HG4.out Try.underlying50 rfl HSZ.out ?_)
          go_loop [10, 11, 12, 43] (fun o _ _ i => ∃ k : Nat, k ≤ 15 ∧ i = .int .i64 k ∧ o = .int .u64 (wd c ((mv l a b).take k))) (fun _ _ _ i => 15 - (intOf i).toNat)
          case atStart => exact ⟨0, by omega, rfl, by rw [H15.out]; rfl⟩
          case round =>
            obtain ⟨k, hk, rfl, rfl⟩ := hrel
            by_cases hlt : k < 15
            · obtain ⟨y, hy⟩ : ∃ y, y = (mv l a b).getD k 0 := ⟨_, rfl⟩
              have hidx := idx_at (mv l a b) HML.out k hlt
              rw [← hy] at hidx
              have hy16 : y < 16 := by
                rw [hy, getD_eq (by rw [HML.out]; exact hlt)]
                exact HMT.out _ (List.getElem_mem _)
              have HO : Hid (bits .or .u64 (wd c ((mv l a b).take k) : Int) (IntKind.u64.wrap ((y : Int) * 2 ^ (4 + 4 * k))) = (wd c ((mv l a b).take (k + 1)) : Int)) := by
                rw [hy]; exact Lib.hid (or_slot c (mv l a b) k hc16 HMT.out HML.out hlt)
              clear hy
              go_wp2
              go_round
              case rel => exact ⟨k + 1, by omega, by go_num, by rw [HO.out]⟩
              case measure => simp [intOf]; omega
            · obtain rfl : k = 15 := by omega
              have HF2 : Hid ((mv l a b).take 15 = mv l a b) := Lib.hid (List.take_of_length_le (by rw [HML.out]; omega))
              rw [HF2.out]
              go_wp2
              go_ret
              exact ⟨rfl, by have hh := HGW.out; rw [← hh]; exact hb4⟩
      · have e1 : IntKind.i64.wrap ((a : Int) + 1) = (a : Int) + 1 := IntWalk.i64_in _ (by omega)
        have hs1 := run_cut_lo g a (a : Int) rfl ha
        have hs2 := run_cut_end g ((a : Int) + 1) (by omega)
        have HM := Lib.hid (show (rowV (l.drop (a + 1))).length = Nat.min 0 (15 - a) by rw [rowV_length, List.length_drop, HN.out]; exact (by omega : 15 - (a + 1) = 0).trans (Nat.zero_min _).symm)
        have HFit := Lib.hid (show a + (rowV (l.drop (a + 1))).length ≤ (rowV l).length by rw [rowV_length, rowV_length, List.length_drop, HN.out]; omega)
        have HNo := Lib.hid (show ¬ 0 < (rowV (l.drop (a + 1))).length by rw [HM.out]; exact fun h => by rw [show Nat.min 0 (15 - a) = 0 from Nat.zero_min _] at h; omega)
        go_region_law (refine step_copy_splice rfl (.tmp 26) (.tmp 29) 38 38 rfl 3 Try.underlying38 (by kernel_rfl) (some ⟨g, a, none⟩) (some ⟨g, 0, none⟩) (15 - a) (15 - a) 0 0 (by simp [Act.eval, Act.put]) (by simp [Act.eval, Act.put]) g a (rowV l) 50 HG1.out (rowV (l.drop (a + 1))) HM.out (fun h => absurd h HNo.out) HFit.out (rowV_one _) g w hb1.drew (Nat.le_refl _) ?_; intro w2 HG2 hb2)
        have HE1 := Lib.hid (splice1 l a HN.out ha)
        rw [HE1.out] at HG2
        have HEL := Lib.hid (show (ers l a ++ l.drop 14).length = 15 by rw [List.length_append, ers_length (by rw [HN.out]; exact ha), List.length_drop, HN.out])
        obtain ⟨E, hE⟩ : ∃ E, E = ers l a ++ l.drop 14 := ⟨_, rfl⟩
        have HET : Hid (E.take 14 = ers l a) := Lib.hid (by rw [hE, List.take_left' (by rw [ers_length (by rw [HN.out]; exact ha), HN.out])])
        rw [← hE] at HG2 HEL
        clear hE
        obtain ⟨HV, hHV⟩ : ∃ HV, HV = E.take (b + 1) ++ (E.drop b).take (14 - b) := ⟨_, rfl⟩
        have HSPa := Lib.hid (show splice (rowV E) (b + 1) (rowV ((E.drop b).take (14 - b))) = rowV HV by rw [hHV]; exact splice2 E b HEL.out hb)
        have HSPb := Lib.hid (show HV.set b x = mv l a b by rw [hHV, splice3' E b x HEL.out hb, HET.out, HX.out]; rfl)
        have HVL := Lib.hid (show HV.length = 15 by rw [hHV, List.length_append, List.length_take, List.length_take, List.length_drop, HEL.out]; omega)
        have e2 : IntKind.i64.wrap ((b : Int) + 1) = (b : Int) + 1 := IntWalk.i64_in _ (by omega)
        have hc2 := run_cut_14 g b (b : Int) rfl (by omega)
        have HSrc2 := Lib.hid (row_src2 HG2.out b (14 - b) (by rw [HEL.out]; omega))
        have HFit2 := Lib.hid (show b + 1 + (rowV ((E.drop b).take (14 - b))).length ≤ (rowV E).length by rw [rowV_length, rowV_length, List.length_take, List.length_drop, HEL.out]; omega)
        clear hHV
        go_wp2
        rcases (show b < 14 ∨ 14 ≤ b from by omega) with hb14 | hb14
        · have hc1 := run_cut_lo g (b + 1) ((b : Int) + 1) (by omega) (by omega)
          have HM2 := Lib.hid (show (rowV ((E.drop b).take (14 - b))).length = Nat.min (14 - b) (14 - b) by rw [rowV_length, List.length_take, List.length_drop, HEL.out]; exact (by omega : min (14 - b) (15 - b) = 14 - b).trans (Nat.min_self _).symm)
          go_region_law (refine step_copy_splice rfl (.tmp 33) (.tmp 35) 38 38 rfl 3 Try.underlying38 (by kernel_rfl) (some ⟨g, b + 1, none⟩) (some ⟨g, b, none⟩) (14 - b) (14 - b) (14 - b) (15 - b) (by simp [Act.eval, Act.put]) (by simp [Act.eval, Act.put]) g (b + 1) (rowV E) 50 HG2.out (rowV ((E.drop b).take (14 - b))) HM2.out (fun _ => ⟨rfl, _, rfl, HSrc2.out⟩) HFit2.out (rowV_one _) g w hb2.drew (Nat.le_refl _) ?_; intro w3 HG3 hb3)
          rw [HSPa.out] at HG3
          have hcb : w3.cell? ⟨g, b, none⟩ = some (.int .i64 (HV.getD b 0 : Nat)) := by
            rw [cell_of_row w3 g b _ _ _ HG3.out]
            have := rowV_get HV b (by rw [HVL.out]; exact hb)
            simpa using this
          have hfb : w3.frozen? ⟨g, b, none⟩ = false := frozen_of_row w3 g b _ _ HG3.out
          have HG4 : Hid ((w3.setCell ⟨g, b, none⟩ (.int .i64 (x : Int))).heap[g]? = some (.cells (rowV (mv l a b)).toArray 50 (0, 0))) := by
            refine Lib.hid ?_
            rw [heap_setCell_same w3 g b _ _ _ HG3.out]
            have := HSPb.out
            rw [← this, ← rowV_set]
            simp
          have hb4 := hb3.setCell (p := ⟨g, b, none⟩) (Nat.le_refl _) (.int .i64 (x : Int))
          have hsz : (Try.prog.info? 50).map (·.size) = some (rowV (mv l a b)).toArray.size := by rw [show (rowV (mv l a b)).toArray.size = 15 by rw [List.size_toArray, rowV_length, mv_length (by rw [HN.out]; exact ha) (by rw [HN.out]; exact hb), HN.out]]; kernel_rfl
          have HSZ := Lib.hid hsz
          clear hsz
          go_wp2_with (refine wpList_load_row rfl 50 _ rfl g rfl 50 _ (0, 0) _ HG4.out Try.underlying50 rfl HSZ.out ?_)
          go_loop [10, 11, 12, 43] (fun o _ _ i => ∃ k : Nat, k ≤ 15 ∧ i = .int .i64 k ∧ o = .int .u64 (wd c ((mv l a b).take k))) (fun _ _ _ i => 15 - (intOf i).toNat)
          case atStart => exact ⟨0, by omega, rfl, by rw [H15.out]; rfl⟩
          case round =>
            obtain ⟨k, hk, rfl, rfl⟩ := hrel
            by_cases hlt : k < 15
            · obtain ⟨y, hy⟩ : ∃ y, y = (mv l a b).getD k 0 := ⟨_, rfl⟩
              have hidx := idx_at (mv l a b) HML.out k hlt
              rw [← hy] at hidx
              have hy16 : y < 16 := by
                rw [hy, getD_eq (by rw [HML.out]; exact hlt)]
                exact HMT.out _ (List.getElem_mem _)
              have HO : Hid (bits .or .u64 (wd c ((mv l a b).take k) : Int) (IntKind.u64.wrap ((y : Int) * 2 ^ (4 + 4 * k))) = (wd c ((mv l a b).take (k + 1)) : Int)) := by
                rw [hy]; exact Lib.hid (or_slot c (mv l a b) k hc16 HMT.out HML.out hlt)
              clear hy
              go_wp2
              go_round
              case rel => exact ⟨k + 1, by omega, by go_num, by rw [HO.out]⟩
              case measure => simp [intOf]; omega
            · obtain rfl : k = 15 := by omega
              have HF2 : Hid ((mv l a b).take 15 = mv l a b) := Lib.hid (List.take_of_length_le (by rw [HML.out]; omega))
              rw [HF2.out]
              go_wp2
              go_ret
              exact ⟨rfl, by have hh := HGW.out; rw [← hh]; exact hb4⟩
        · have hc1 := run_cut_end g ((b : Int) + 1) (by omega)
          have HM2 := Lib.hid (show (rowV ((E.drop b).take (14 - b))).length = Nat.min 0 0 by rw [rowV_length, List.length_take, List.length_drop, HEL.out]; exact (by omega : min (14 - b) (15 - b) = 0))
          have HNo := Lib.hid (show ¬ 0 < (rowV ((E.drop b).take (14 - b))).length by rw [HM2.out]; exact fun h => by rw [show Nat.min 0 0 = 0 from rfl] at h; omega)
          go_region_law (refine step_copy_splice rfl (.tmp 33) (.tmp 35) 38 38 rfl 3 Try.underlying38 (by kernel_rfl) (some ⟨g, 0, none⟩) (some ⟨g, b, none⟩) 0 0 0 (15 - b) (by simp [Act.eval, Act.put]) (by simp [Act.eval, Act.put]) g (b + 1) (rowV E) 50 HG2.out (rowV ((E.drop b).take (14 - b))) HM2.out (fun h => absurd h HNo.out) HFit2.out (rowV_one _) g w hb2.drew (Nat.le_refl _) ?_; intro w3 HG3 hb3)
          rw [HSPa.out] at HG3
          have hcb : w3.cell? ⟨g, b, none⟩ = some (.int .i64 (HV.getD b 0 : Nat)) := by
            rw [cell_of_row w3 g b _ _ _ HG3.out]
            have := rowV_get HV b (by rw [HVL.out]; exact hb)
            simpa using this
          have hfb : w3.frozen? ⟨g, b, none⟩ = false := frozen_of_row w3 g b _ _ HG3.out
          have HG4 : Hid ((w3.setCell ⟨g, b, none⟩ (.int .i64 (x : Int))).heap[g]? = some (.cells (rowV (mv l a b)).toArray 50 (0, 0))) := by
            refine Lib.hid ?_
            rw [heap_setCell_same w3 g b _ _ _ HG3.out]
            have := HSPb.out
            rw [← this, ← rowV_set]
            simp
          have hb4 := hb3.setCell (p := ⟨g, b, none⟩) (Nat.le_refl _) (.int .i64 (x : Int))
          have hsz : (Try.prog.info? 50).map (·.size) = some (rowV (mv l a b)).toArray.size := by rw [show (rowV (mv l a b)).toArray.size = 15 by rw [List.size_toArray, rowV_length, mv_length (by rw [HN.out]; exact ha) (by rw [HN.out]; exact hb), HN.out]]; kernel_rfl
          have HSZ := Lib.hid hsz
          clear hsz
          go_wp2_with (refine wpList_load_row rfl 50 _ rfl g rfl 50 _ (0, 0) _ HG4.out Try.underlying50 rfl HSZ.out ?_)
          go_loop [10, 11, 12, 43] (fun o _ _ i => ∃ k : Nat, k ≤ 15 ∧ i = .int .i64 k ∧ o = .int .u64 (wd c ((mv l a b).take k))) (fun _ _ _ i => 15 - (intOf i).toNat)
          case atStart => exact ⟨0, by omega, rfl, by rw [H15.out]; rfl⟩
          case round =>
            obtain ⟨k, hk, rfl, rfl⟩ := hrel
            by_cases hlt : k < 15
            · obtain ⟨y, hy⟩ : ∃ y, y = (mv l a b).getD k 0 := ⟨_, rfl⟩
              have hidx := idx_at (mv l a b) HML.out k hlt
              rw [← hy] at hidx
              have hy16 : y < 16 := by
                rw [hy, getD_eq (by rw [HML.out]; exact hlt)]
                exact HMT.out _ (List.getElem_mem _)
              have HO : Hid (bits .or .u64 (wd c ((mv l a b).take k) : Int) (IntKind.u64.wrap ((y : Int) * 2 ^ (4 + 4 * k))) = (wd c ((mv l a b).take (k + 1)) : Int)) := by
                rw [hy]; exact Lib.hid (or_slot c (mv l a b) k hc16 HMT.out HML.out hlt)
              clear hy
              go_wp2
              go_round
              case rel => exact ⟨k + 1, by omega, by go_num, by rw [HO.out]⟩
              case measure => simp [intOf]; omega
            · obtain rfl : k = 15 := by omega
              have HF2 : Hid ((mv l a b).take 15 = mv l a b) := Lib.hid (List.take_of_length_le (by rw [HML.out]; omega))
              rw [HF2.out]
              go_wp2
              go_ret
              exact ⟨rfl, by have hh := HGW.out; rw [← hh]; exact hb4⟩
end Go.Proofs.Ytffeegpjnibdnaa
