/- A stack cloned, and one sheet put in: the library's functions. -/
import Derived.Test.YtkdfkhjoijfcdaaIns
import Derived.Test.YtkdfkhjoijfcdaaStack
import Derived.Test.YtkdfkhjoijfcdaaSpotS
import Derived.Lib.AppendZeros
import Derived.StillTailTactics
namespace Go.Proofs.Ytkdfkhjoijfcdaa
open Go.RowKit
set_option linter.unusedVariables false
set_option linter.unusedSimpArgs false
set_option maxRecDepth 100000
theorem owns_cellsV {w : World} {base g cap n s : Nat} {e : TypeId} {xs : List Value} (h : w.ownsRow base e s (.slice (some ⟨g, 0, none⟩) n cap) n xs) : base ≤ g ∧ g < w.heap.size ∧ n ≤ cap ∧ cap ≤ maxLen ∧ (rowOf w g).size = cap * s ∧ frOf w g = (0, 0) ∧ w.heap[g]? = some (.cells (rowOf w g) e (0, 0)) ∧ ∀ j, j < n * s → (rowOf w g)[j]? = xs[j]? := by
  obtain ⟨hl, ⟨h0, -⟩ | ⟨g', cap', cur, hv, hb, hg, h1, h2, h3, ht⟩⟩ := h
  · cases h0
  · simp only [Value.slice.injEq, Option.some.injEq, Addr.mk.injEq] at hv
    obtain ⟨⟨rfl, -, -⟩, -, rfl⟩ := hv
    have hrow : rowOf w g = cur := by simp [rowOf, hg, objRow]
    refine ⟨hb, (Array.getElem?_eq_some_iff.1 hg).1, h1, h2, by rw [hrow]; exact h3, by simp [frOf, hg, objFr], by rw [hrow]; exact hg, fun j hj => ?_⟩
    rw [hrow, ← ht, List.getElem?_take, if_pos hj, Array.getElem?_toList]
set_option maxHeartbeats 2000000 in
theorem clone_stack (v : Value) (n b : Nat) (F : Nat → Nat → Int) (hn : n ≤ 1048576) (w : World) (h : OwnV 266 w b v n (shV F)) :
    Calls Try.prog 30 #[v] w fun e w' => ∃ v', e = .returned v' ∧ w'.ownsRow w.heap.size 39 266 v' n (shL F n) ∧ Below w.heap.size w w' := by
  obtain ⟨i0, z0, hi0, hz0, hs0, hb0, hc0⟩ := sheet_info
  have heq := fun a m c w => Lib.run_eql_slice_nil (P := Try.prog) w 35 39 a m c 0 0 Try.underlying35
  rcases h with ⟨rfl, rfl⟩ | ⟨g, cap, rfl, hbg, hg, hfr, hsz, hcells⟩
  · go_enter Try.func30, Try.ntmps30
    go_wp2
    go_ret
    exact ⟨_, rfl, World.ownsRow_nil _ _ _ _, by repeat' (first | with_reducible exact Below.refl _ _ | with_reducible assumption | with_reducible refine Below.drew ?_ | with_reducible refine Below.drewN ?_ _ | with_reducible refine Below.alloc ?_ ?_ _ | with_reducible refine Below.setCell ?_ ?_ _ | with_reducible refine Below.setRow ?_ ?_ _ | with_reducible refine below_step (by assumption) ?_ ?_ | (show (_ : Nat) ≤ _; first | omega | (simp <;> omega)))⟩
  · have HC := Lib.hid hcells
    clear hcells
    go_enter Try.func30, Try.ntmps30
    go_wp2_with (at_builtin; refine wpList_append_own _ rfl _ _ 35 rfl w.heap.size 39 i0 z0 266 522 Try.underlying35 hi0 hz0 hs0 hb0 hc0 (by decide) _ _ _ rfl (owns_emptyW w _ _) ⟨g, 0, none⟩ n cap (shL F n) rfl (shL_len F n) ?c1 shL_one ?c3 ?c4 ?c5 ?_)
    case c1 =>
      intro j u hj
      obtain ⟨hjn, rfl⟩ := shL_get hj
      have e := HC.out (j / 266) (by omega) (j % 266) (by omega)
      rw [show j / 266 * 266 + j % 266 = j by omega] at e
      have : ((⟨g, 0, none⟩ : Addr).add j) = ⟨g, j, none⟩ := by unfold Addr.add; split <;> simp_all
      rw [this, cell_row]
      go_simp
    case c3 => unfold maxLen; omega
    case c4 => omega
    case c5 => simp
    intro v' w1 hown' hgrow _
    have hbg : Below w.heap.size w w1 := below_grown (Below.alloc (Below.refl _ _) (Nat.le_refl _) _) hgrow (fun k hk => by simp [Value.ownBlock] at hk; omega) (by simp)
    have HB := Lib.hid hbg
    have HW := Lib.hid hown'
    clear hbg hown' hgrow
    go_wp2
    go_ret
    exact ⟨_, rfl, HW.out, HB.out⟩
theorem sheet_size : (Try.prog.info? 39).map (·.size) = some 266 := by kernel_rfl
theorem kc_cells {w : World} {b : Nat} {d : Nat → Int} (h : rowOf w b = kc sk 266 d) : ∀ j v, (kc sk 266 d).toList[j]? = some v → w.cell? ((⟨b, 0, none⟩ : Addr).add j) = some v := fun j v hj => by
  have : ((⟨b, 0, none⟩ : Addr).add j) = ⟨b, j, none⟩ := by unfold Addr.add; split <;> simp_all
  rw [this, cell_row, h, ← Array.getElem?_toList]
  exact hj
theorem kc_ones (d : Nat → Int) : ∀ u ∈ (kc sk 266 d).toList, u.oneCell' = true := fun u hu => by
  obtain ⟨j, hj⟩ := List.getElem?_of_mem hu
  rw [Array.getElem?_toList, kc_get] at hj
  split at hj
  · obtain rfl := Option.some.inj hj; rfl
  · cases hj
set_option maxHeartbeats 8000000 in
theorem insert_any (v : Value) (n a base : Nat) (F : Nat → Nat → Int) (d : Nat → Int) (vb : Nat) (hn : n ≤ 6) (ha : a ≤ n) (w : World) (hown : w.ownsRow base 39 266 v n (shL F n)) (hbase : base ≤ w.heap.size) (hvb : w.heap[vb]? = some (.cells (kc sk 266 d) 39 (0, 0))) (hne : ∀ g cap, v = .slice (some ⟨g, 0, none⟩) n cap → g ≠ vb) :
    Calls Try.prog 29 #[v, .int .i64 a, .slice (some ⟨vb, 0, none⟩) 1 1] w fun e w' => ∃ v', e = .returned v' ∧ OwnV 266 w' base v' (n + 1) (shV (insF F a d)) ∧ Below base w w' := by
  obtain ⟨i0, z0, hi0, hz0, hs0, hb0, hc0⟩ := sheet_info
  have hrv : rowOf w vb = kc sk 266 d := by simp [rowOf, hvb, objRow]
  have hvs : vb < w.heap.size := (Array.getElem?_eq_some_iff.1 hvb).1
  have hlen : (kc sk 266 d).toList.length = 1 * 266 := by rw [Array.length_toList, kc_size]
  by_cases han : a = n
  · subst han
    obtain ⟨v', w1, hr, hown', hgrow, -⟩ := run_append_own (P := Try.prog) w base 35 35 39 i0 z0 266 522 Try.underlying35 hi0 hz0 hs0 hb0 hc0 (by decide) v a (shL F a) hown ⟨vb, 0, none⟩ 1 1 (kc sk 266 d).toList hlen (kc_cells hrv) (kc_ones d) (by unfold maxLen; omega) (by omega) hbase
    have hB : Below base w w1 := below_grown (Below.refl _ _) hgrow (fun k hk => (hown.lt k hk).1) hbase
    obtain ⟨ba, ca, hva⟩ : ∃ ba ca, v = .slice ba a ca := by
      rcases hown.2 with ⟨rfl, rfl⟩ | ⟨g, cap, cur, rfl, -⟩ <;> exact ⟨_, _, rfl⟩
    subst hva
    rw [← append_two 35 34 35 39 39 i0 Try.underlying35 Try.underlying34 hi0] at hr
    have HRR := Lib.hid hr
    have HO := Lib.hid (OwnV.of (V := shV (insF F a d)) hown' (fun k hk j hj => ins_end k hk j hj))
    have HB := Lib.hid hB
    have hw1 : IntKind.i64.wrap (a : Int) = a := IntWalk.i64_in _ (by omega)
    clear hr hown' hgrow hB hown hvb hne hrv hlen
    go_enter Try.func29, Try.ntmps29
    go_wp2_with (at_builtin; refine Lib.wpList_append_run _ rfl _ _ _ _ rfl _ _ rfl rfl _ _ HRR.out ?_)
    all_goals
      go_ret
      exact ⟨_, rfl, HO.out, HB.out⟩
  obtain ⟨g, cap, rfl⟩ : ∃ g cap, v = .slice (some ⟨g, 0, none⟩) n cap := by
    rcases hown.2 with ⟨-, h0⟩ | ⟨g, cap, cur, rfl, -⟩
    · omega
    · exact ⟨_, _, rfl⟩
  have hgv := hne g cap rfl
  obtain ⟨hbg, hgs, hnc, hcm, hcs, hfg, hgh, hgc⟩ := owns_cellsV hown
  have hcm2 : cap ≤ 9223372036854775807 := by unfold maxLen at hcm; omega
  have hw1 : IntKind.i64.wrap ((n : Int) + 1) = ((n + 1 : Nat) : Int) := by rw [IntWalk.i64_in _ (by omega)]; rfl
  have hw2 : IntKind.i64.wrap ((a : Int) + 1) = ((a + 1 : Nat) : Int) := by rw [IntWalk.i64_in _ (by omega)]; rfl
  have hane : ¬ (a : Int) = (n : Int) := by omega
  have hane2 : ((a : Int) == (n : Int)) = false := by rw [beq_eq_false_iff_ne]; exact hane
  have hanc : ¬ a = cap := by omega
  have hac : a < cap := by omega
  obtain ⟨R, hR⟩ : ∃ R, rowOf w g = R := ⟨_, rfl⟩
  rw [hR] at hgh hgc hcs
  have hsz : ∀ w : World, (sizeOf 39).run Try.prog w = .ok 266 w := fun w => by simp [sizeOf, typeInfo, hi0, hs0]
  by_cases hroom : n + 1 ≤ cap
  · have hov : ∀ o lb cb, (callFunc 53 #[.slice (some ⟨vb, 0, none⟩) 1 1, .slice (some ⟨g, o, none⟩) lb cb]).run Try.prog w = .ok (.value (.bool false)) w := fun o lb cb => by
      rw [run_callFunc_extern Try.func53 (by kernel_rfl) (by kernel_rfl) (by kernel_rfl) (e := Extern.SlicesOverlaps.overlaps #[34, 34] #[4]) (by kernel_rfl),
        Lib.run_overlaps_apart w 34 4 39 Try.underlying34 266 hsz ⟨vb, 0, none⟩ ⟨g, o, none⟩ 1 1 lb cb (fun e => hgv e.symm) 39 39 266 R.size (by simp [World.shape?, hvb, kc_size]) (by simp [World.shape?, hgh]) (by rw [hcs]; omega) (by simp [World.frozen?, hvb]) (by simp [World.frozen?, hvb])]
      rfl
    have hroom2 : ¬ (cap : Int) < ((n : Int) + 1) := by omega
    have HFIT := Lib.hid (show (a + 1) * 266 + ((shL F n).drop (a * 266)).length ≤ R.size by rw [List.length_drop, shL_len, hcs]; have : (n + 1) * 266 ≤ cap * 266 := Nat.mul_le_mul_right _ hroom; omega)
    have HSRC := Lib.hid (show ∀ j v, ((shL F n).drop (a * 266))[j]? = some v → w.drew.cell? ((⟨g, a * 266, none⟩ : Addr).add j) = some v from fun j v hj => by
      have : ((⟨g, a * 266, none⟩ : Addr).add j) = ⟨g, a * 266 + j, none⟩ := by unfold Addr.add; split <;> simp_all
      rw [List.getElem?_drop] at hj
      obtain ⟨hlt, -⟩ := shL_get hj
      rw [this, cell_row, show rowOf w.drew g = R from hR, hgc _ hlt]
      exact hj)
    have HGH := Lib.hid (show w.drew.heap[g]? = some (.cells R 39 (0, 0)) from hgh)
    have HONE := Lib.hid (show ∀ u ∈ (shL F n).drop (a * 266), u.oneCell' = true from fun u hu => shL_one u (List.mem_of_mem_drop hu))
    have hanc1 : ¬ cap = a + 1 := by omega
    have hanc3 : ¬ cap = a := by omega
    have han1 : (a : Int) ≤ (n : Int) + 1 := by omega
    have h0a : (0 : Int) ≤ (a : Int) + 1 := by omega
    go_enter Try.func29, Try.ntmps29
    go_wp2
    refine wp_region_still_tail 8 (by kernel_rfl) (by kernel_rfl) ?_
    simp only [List.take_succ_cons, List.take_zero, List.drop_succ_cons, List.drop_zero, World.drew_eq]
    repeat (refine wpStill_step (fun K hK => ?_); go_simp; refine hK _ ?_; clear hK K)
    try refine wpStill_nil ?_
    refine wpList_copy_wide rfl (.tmp 73) (.tmp 76) 35 35 rfl 39 266 Try.underlying35 sheet_size g ((a + 1) * 266) _ _ ⟨g, a * 266, none⟩ _ _ (n - a) rfl rfl R 39 HGH.out ((shL F n).drop (a * 266)) (Nat.min_eq_right (by omega)) (by rw [List.length_drop, shL_len]; omega) HSRC.out HFIT.out HONE.out ?_
    have hrr := ins_room (d := d) (show a < n by omega) (show (n + 1) * 266 ≤ R.size by rw [hcs]; exact Nat.mul_le_mul_right _ hroom) hgc
    have hsr : R.size = cap * 266 := hcs
    generalize ((shL F n).drop (a * 266)).toArray = X at hrr ⊢
    generalize hR1 : splice R ((a + 1) * 266) X = R1 at hrr ⊢
    have hs1 : R1.size = cap * 266 := by rw [← hR1, splice_size]; exact hsr
    have HRR := Lib.hid hrr
    have hh1 := setRow_heap w.drew g R R1 39 (0, 0) HGH.out
    have hv1 := setRow_other w.drew g vb R1 hgv.symm
    obtain ⟨w1, hw1e⟩ : ∃ w1, w1 = w.drew.setRow g R1 := ⟨_, rfl⟩
    have hB1 : Below base w w1 := by rw [hw1e]; exact Below.setRow (Below.drew (Below.refl _ _)) hbg _
    rw [← hw1e] at hh1 hv1 ⊢
    have hv2 : w1.heap[vb]? = some (.cells (kc sk 266 d) 39 (0, 0)) := hv1.trans hvb
    have hrv1 : rowOf w1 vb = kc sk 266 d := by simp [rowOf, hv2, objRow]
    have hr1 : rowOf w1 g = R1 := by simp [rowOf, hh1, objRow]
    have hf1 : frOf w1 g = (0, 0) := by simp [frOf, hh1, objFr]
    have hs1w : w.heap.size ≤ w1.heap.size := by rw [hw1e]; simp
    have HH := Lib.hid hh1
    clear hw1e hv1 hh1 hrr hov hgh hR1 hvb hv2 hne hown hgc HSRC HFIT HONE HGH hR hrv
    go_wp2_with (refine wpList_copy_wide rfl _ _ 35 34 rfl 39 266 Try.underlying35 sheet_size g (a * 266) _ _ ⟨vb, 0, none⟩ _ _ 1 rfl rfl R1 39 HH.out (kc sk 266 d).toList (Nat.min_eq_left (by omega)) (by rw [Array.length_toList, kc_size]) (kc_cells hrv1) (by rw [Array.length_toList, kc_size, hs1]; omega) (kc_ones d) ?_)
    go_ret
    exact ⟨_, rfl, .inr ⟨g, cap, rfl, hbg, by simp; omega, by go_simp, by go_simp <;> (rw [splice_size]; omega), fun k hk j hj => by
      have e := HRR.out k hk j hj
      have hrw : rowOf (w1.setRow g (splice R1 (a * 266) (kc sk 266 d))) g = splice R1 (a * 266) (kc sk 266 d) := by rw [row_setRow _ _ _ _ (by rw [hr1, hs1]; omega), if_pos rfl]
      rw [hrw]; exact e⟩, Below.setRow hB1 hbg _⟩
  have hw3 : IntKind.i64.wrap ((n : Int) + 1 - (a : Int)) = ((n + 1 - a : Nat) : Int) := by rw [IntWalk.i64_in _ (by omega)]; omega
  have hol : ((shL F n).take (a * 266)).length = a * i0.size := by rw [List.length_take, shL_len, hs0]; omega
  have hsrc0 : ∀ j v, ((shL F n).take (a * 266))[j]? = some v → w.cell? ((⟨g, 0, none⟩ : Addr).add j) = some v := fun j v hj => by
    have : ((⟨g, 0, none⟩ : Addr).add j) = ⟨g, j, none⟩ := by unfold Addr.add; split <;> simp_all
    rw [List.getElem?_take] at hj
    split at hj
    · obtain ⟨hlt, -⟩ := shL_get hj
      rw [this, cell_row, hR, hgc _ hlt]
      exact hj
    · cases hj
  have hr := run_append_zeros (P := Try.prog) w 35 3 35 39 i0 z0 .i64 .i64 Try.underlying35 Try.underlying3 hi0 hz0 ⟨g, 0, none⟩ a cap _ hol hsrc0 (n + 1 - a) (by omega) (by omega) (by omega) (by omega) (by rw [hb0]; omega) (growslice_fits (by omega) (by rw [hb0]; omega))
  rw [show a + (n + 1 - a) = n + 1 by omega] at hr
  have hc1 := grownCap_ge w (n + 1) cap 39
  have hc2 := grownCap_le_maxLen w (n + 1) cap 39 (by unfold maxLen; omega)
  generalize grownCap w (n + 1) cap 39 = c2 at hr hc1 hc2
  have hz2 : (((shL F n).take (a * 266)).toArray ++ Builtin.zeroCells z0.cells (n + 1 - a) ++ Builtin.zeroCells z0.cells (c2 - (n + 1))).size = c2 * 266 := by
    simp only [Array.size_append, List.size_toArray, size_zeroCells, hc0, hol, hs0, ← Nat.add_mul]
    congr 1
    omega
  have hold : ∀ j, j < a * 266 → (((shL F n).take (a * 266)).toArray ++ Builtin.zeroCells z0.cells (n + 1 - a) ++ Builtin.zeroCells z0.cells (c2 - (n + 1)))[j]? = (shL F n)[j]? := fun j hj => by
    have hl : ((shL F n).take (a * 266)).toArray.size = a * 266 := by rw [List.size_toArray, hol, hs0]
    rw [Array.append_assoc, Array.getElem?_append_left (by omega), List.getElem?_toArray, List.getElem?_take, if_pos hj]
  generalize (((shL F n).take (a * 266)).toArray ++ Builtin.zeroCells z0.cells (n + 1 - a) ++ Builtin.zeroCells z0.cells (c2 - (n + 1))) = cur2 at hr hz2 hold
  obtain ⟨w2, hw2e⟩ : ∃ w2, w2 = w.drew.alloc (.cells cur2 39) := ⟨_, rfl⟩
  have hh2 : w2.heap[w.heap.size]? = some (.cells cur2 39 (0, 0)) := by rw [hw2e]; exact heap_alloc_new w.drew _
  have hB2 : Below w.heap.size w w2 := by rw [hw2e]; exact Below.alloc (Below.drew (Below.refl _ _)) (Nat.le_refl _) _
  rw [← hw2e] at hr
  have hsz2 := hB2.size
  have hs2 : w.heap.size < w2.heap.size := (Array.getElem?_eq_some_iff.1 hh2).1
  have hv2 : w2.heap[vb]? = some (.cells (kc sk 266 d) 39 (0, 0)) := (hB2.block vb hvs).trans hvb
  have hrv2 : rowOf w2 vb = kc sk 266 d := by simp [rowOf, hv2, objRow]
  have hrg2 : rowOf w2 g = R := (keep_row hB2 hgs).trans hR
  have hrr := ins_grow (d := d) (show a < n by omega) (show (n + 1) * 266 ≤ cur2.size by rw [hz2]; exact Nat.mul_le_mul_right _ hc1) hold
  have hcm3 : c2 ≤ 9223372036854775807 := by unfold maxLen at hc2; omega
  have hroom2 : (cap : Int) < ((n : Int) + 1) := by omega
  have HRR := Lib.hid hr
  have HH := Lib.hid hh2
  have HBB := Lib.hid hB2
  have h0a : (0 : Int) ≤ (a : Int) + 1 := by omega
  have han1 : (a : Int) ≤ (n : Int) + 1 := by omega
  have han2 : (a : Int) ≤ (n : Int) := by omega
  have hx1 : ¬ c2 = a := by omega
  have hx2 : ¬ c2 = a + 1 := by omega
  have hx3 : ¬ cap = a := by omega
  clear hr hh2 hB2 hw2e hv2 hvb hne hown hrv hz0
  go_enter Try.func29, Try.ntmps29
  go_wp2_with (first | (at_builtin; refine Lib.wpList_append_run _ rfl _ _ _ _ rfl _ _ rfl rfl _ _ HRR.out ?_) | (refine wpList_copy_wide rfl _ _ 35 34 rfl 39 266 Try.underlying35 sheet_size w.heap.size (a * 266) _ _ ⟨vb, 0, none⟩ _ _ 1 rfl rfl cur2 39 HH.out (kc sk 266 d).toList (Nat.min_eq_left (by omega)) (by rw [Array.length_toList, kc_size]) (kc_cells hrv2) (by rw [Array.length_toList, kc_size, hz2]; omega) (kc_ones d) ?_))
  have hs2r : (splice cur2 (a * 266) (kc sk 266 d)).size = c2 * 266 := by rw [splice_size]; exact hz2
  generalize hR2 : splice cur2 (a * 266) (kc sk 266 d) = R2 at hrr hs2r ⊢
  have hh3 := setRow_heap w2 w.heap.size cur2 R2 39 (0, 0) HH.out
  have hg3 := setRow_other w2 w.heap.size g R2 (by omega)
  obtain ⟨w3, hw3e⟩ : ∃ w3, w3 = w2.setRow w.heap.size R2 := ⟨_, rfl⟩
  have hB3 : Below w.heap.size w w3 := by rw [hw3e]; exact Below.setRow HBB.out (Nat.le_refl _) _
  rw [← hw3e] at hh3 hg3
  rw [show w2.setRow w.heap.size R2 = w3 from hw3e.symm]
  have hrg3 : rowOf w3 g = R := (show rowOf w3 g = rowOf w2 g by unfold rowOf; rw [hg3]).trans hrg2
  have hr3 : rowOf w3 w.heap.size = R2 := by simp [rowOf, hh3, objRow]
  have hf3 : frOf w3 w.heap.size = (0, 0) := by simp [frOf, hh3, objFr]
  have hs3 : w.heap.size < w3.heap.size := (Array.getElem?_eq_some_iff.1 hh3).1
  have HFIT := Lib.hid (show (a + 1) * 266 + ((shL F n).drop (a * 266)).length ≤ R2.size by rw [List.length_drop, shL_len, hs2r]; have : (n + 1) * 266 ≤ c2 * 266 := Nat.mul_le_mul_right _ hc1; omega)
  have HSRC := Lib.hid (show ∀ j v, ((shL F n).drop (a * 266))[j]? = some v → w3.drew.cell? ((⟨g, a * 266, none⟩ : Addr).add j) = some v from fun j v hj => by
    have : ((⟨g, a * 266, none⟩ : Addr).add j) = ⟨g, a * 266 + j, none⟩ := by unfold Addr.add; split <;> simp_all
    rw [List.getElem?_drop] at hj
    obtain ⟨hlt, -⟩ := shL_get hj
    rw [this, cell_row, show rowOf w3.drew g = R from hrg3, hgc _ hlt]
    exact hj)
  have HONE := Lib.hid (show ∀ u ∈ (shL F n).drop (a * 266), u.oneCell' = true from fun u hu => shL_one u (List.mem_of_mem_drop hu))
  have HGH := Lib.hid (show w3.drew.heap[w.heap.size]? = some (.cells R2 39 (0, 0)) from hh3)
  have HRF := Lib.hid hrr
  have HB3 := Lib.hid hB3
  clear hrr hold hR2 hh3 hg3 hw3e HRR hB3 hrg2 hrv2
  refine wp_region_still_tail 8 (by kernel_rfl) (by kernel_rfl) ?_
  simp only [List.take_succ_cons, List.take_zero, List.drop_succ_cons, List.drop_zero, World.drew_eq]
  repeat (refine wpStill_step (fun K hK => ?_); go_simp; refine hK _ ?_; clear hK K)
  try refine wpStill_nil ?_
  refine wpList_copy_wide rfl (.tmp 50) (.tmp 53) 35 35 rfl 39 266 Try.underlying35 sheet_size w.heap.size ((a + 1) * 266) _ _ ⟨g, a * 266, none⟩ _ _ (n - a) rfl rfl R2 39 HGH.out ((shL F n).drop (a * 266)) (Nat.min_eq_right (by omega)) (by rw [List.length_drop, shL_len]; omega) HSRC.out HFIT.out HONE.out ?_
  go_wp2
  go_ret
  exact ⟨_, rfl, .inr ⟨w.heap.size, c2, rfl, hbase, by simp; omega, by go_simp, by go_simp <;> (rw [splice_size]; omega), fun k hk j hj => by
    have e := HRF.out k hk j hj
    have hrw : rowOf (w3.drew.setRow w.heap.size (splice R2 ((a + 1) * 266) ((shL F n).drop (a * 266)).toArray)) w.heap.size = splice R2 ((a + 1) * 266) ((shL F n).drop (a * 266)).toArray := by rw [row_setRow _ _ _ _ (by show 0 < (rowOf w3 w.heap.size).size; rw [hr3, hs2r]; omega), if_pos rfl]
    rw [hrw]; exact e⟩, below_le (Below.setRow (Below.drew HB3.out) (Nat.le_refl _) _) hbase⟩
end Go.Proofs.Ytkdfkhjoijfcdaa
