/- One sheet put into a stack: the reference. -/
import Derived.Test.YtkdfkhjoijfcdaaPutI
import Derived.Deep.QuietTactic
namespace Go.Proofs.Ytkdfkhjoijfcdaa
open Go.RowKit
set_option linter.unusedVariables false
set_option linter.unusedSimpArgs false
set_option maxRecDepth 100000
set_option maxHeartbeats 16000000 in
theorem sPutSheet_any (g n b : Nat) (F : Nat → Nat → Int) (p : Int) (d : Nat → Int) (hn : n ≤ 1048576) (hF : ∀ k, k < n → FitRow sk 266 (F k)) (hp : -9223372036854775808 ≤ p ∧ p ≤ 9223372036854775807) (hfd : FitSheet d) (w : World) (h : OwnV 266 w b (.slice (some ⟨g, 0, none⟩) n n) n (shV F)) :
    Calls Try.prog 6 #[.slice (some ⟨g, 0, none⟩) n n, .int .i64 p, .agg (kc sk 266 d)] w fun e w' => ∃ v', e = .returned (.tuple #[v', .int .i64 (puC n F p d)]) ∧ OwnV 266 w' w.heap.size v' (puN n F p d) (shV (insF F p.toNat d)) ∧ Below w.heap.size w w' := by
  have hVT0 := fun w h => l05Ok_any (.slice (some ⟨g, 0, none⟩) n n) n F hn hF w h
  have hVS0 := fun q w h1 h2 => l01Ok_any q d hfd w h1 h2
  have HH := Lib.hid h
  have HWI := Lib.hid (fun w => l00In_any p 0 n w)
  obtain ⟨hgs, hfg, hRs0, hcells0⟩ : g < w.heap.size ∧ frOf w g = (0, 0) ∧ n * 266 ≤ (rowOf w g).size ∧ ∀ k, k < n → ∀ j, j < 266 → (rowOf w g)[k * 266 + j]? = some (shV F k j) := by
    rcases h with ⟨h0, -⟩ | ⟨g', cap', hv, h1, h2, h3, h4, h5⟩
    · cases h0
    · simp only [Value.slice.injEq, Option.some.injEq, Addr.mk.injEq] at hv
      obtain ⟨⟨rfl, -, -⟩, -, rfl⟩ := hv
      exact ⟨h2, h3, h4, h5⟩
  clear h
  rcases Bool.eq_false_or_eq_true (stackB n F) with h1 | h1
  case inr =>
    have HC := Lib.hid (pu_bad (p := p) (d := d) (n := n) (F := F) (fun g => by rw [h1] at g; exact absurd g.1 (by decide)))
    rw [h1] at hVT0
    have HVT := Lib.hid hVT0
    clear h1 hVT0 hVS0 hRs0 hcells0
    rw [HC.out.1, HC.out.2]
    go_enter Try.func6, Try.ntmps6
    go_wp2_with (go_at_call 18; refine (HVT.out _ (HH.out.below (by repeat' (first | with_reducible exact Below.refl _ _ | with_reducible assumption | with_reducible refine Below.drew ?_ | with_reducible refine Below.drewN ?_ _ | with_reducible refine Below.alloc ?_ ?_ _ | with_reducible refine Below.setCell ?_ ?_ _ | with_reducible refine Below.setRow ?_ ?_ _ | with_reducible refine below_step (by assumption) ?_ ?_ | (show (_ : Nat) ≤ _; first | omega | (simp <;> omega)))) (Nat.le_refl _)).slV).mono ?_; rintro e w1 ⟨rfl, hb1⟩; have r1 := keep_rowA hb1; have f1 := keep_frA hb1; have s1 := hb1.size; (try simp only [World.size_alloc, World.size_setCell, setRow_size, World.size_drew, size_drewNm] at r1 f1 s1))
    refine bodyPost_ret (v := .tuple #[.slice (some ⟨_, 0, none⟩) 0 0, .int .i64 1]) (res_tt rfl rfl rfl) rfl ⟨_, rfl, .inr ⟨_, _, rfl, by first | omega | (simp <;> omega), by simp, by (go_simp <;> (intros; omega)), by omega, fun k hk => absurd hk (by omega)⟩, by repeat' (first | with_reducible exact Below.refl _ _ | with_reducible assumption | with_reducible refine Below.drew ?_ | with_reducible refine Below.drewN ?_ _ | with_reducible refine Below.alloc ?_ ?_ _ | with_reducible refine Below.setCell ?_ ?_ _ | with_reducible refine Below.setRow ?_ ?_ _ | with_reducible refine below_step (by assumption) ?_ ?_ | (show (_ : Nat) ≤ _; first | omega | (simp <;> omega)))⟩
  have h6 := stack_six h1
  rcases Bool.eq_false_or_eq_true (okS d) with h2 | h2
  case inr =>
    have HC := Lib.hid (pu_bad (p := p) (d := d) (n := n) (F := F) (fun g => by rw [h2] at g; exact absurd g.2 (by decide)))
    rw [h1] at hVT0
    rw [h2] at hVS0
    have HVT := Lib.hid hVT0
    have HVS := Lib.hid hVS0
    clear h1 h2 hVT0 hVS0 hRs0 hcells0
    rw [HC.out.1, HC.out.2]
    go_enter Try.func6, Try.ntmps6
    go_wp2_with (first | (go_at_call 18; refine (HVT.out _ (HH.out.below (by repeat' (first | with_reducible exact Below.refl _ _ | with_reducible assumption | with_reducible refine Below.drew ?_ | with_reducible refine Below.drewN ?_ _ | with_reducible refine Below.alloc ?_ ?_ _ | with_reducible refine Below.setCell ?_ ?_ _ | with_reducible refine Below.setRow ?_ ?_ _ | with_reducible refine below_step (by assumption) ?_ ?_ | (show (_ : Nat) ≤ _; first | omega | (simp <;> omega)))) (Nat.le_refl _)).slV).mono ?_; rintro e w1 ⟨rfl, hb1⟩; have r1 := keep_rowA hb1; have f1 := keep_frA hb1; have s1 := hb1.size; (try simp only [World.size_alloc, World.size_setCell, setRow_size, World.size_drew, size_drewNm] at r1 f1 s1)) | (go_at_call 19; refine (HVS.out w.heap.size _ (by (go_simp <;> (intros; omega))) (by first | omega | (simp <;> omega))).mono ?_; rintro e w1 ⟨rfl, hb1⟩; have r1 := keep_rowA hb1; have f1 := keep_frA hb1; have s1 := hb1.size; (try simp only [World.size_alloc, World.size_setCell, setRow_size, World.size_drew, size_drewNm] at r1 f1 s1)) | (go_at_call 20; (with_reducible refine (HWI.out _).mono ?_); rintro e wz ⟨rfl, rfl⟩))
    refine bodyPost_ret (v := .tuple #[.slice (some ⟨_, 0, none⟩) 0 0, .int .i64 1]) (res_tt rfl rfl rfl) rfl ⟨_, rfl, .inr ⟨_, _, rfl, by first | omega | (simp <;> omega), by simp, by (go_simp <;> (intros; omega)), by omega, fun k hk => absurd hk (by omega)⟩, by repeat' (first | with_reducible exact Below.refl _ _ | with_reducible assumption | with_reducible refine Below.drew ?_ | with_reducible refine Below.drewN ?_ _ | with_reducible refine Below.alloc ?_ ?_ _ | with_reducible refine Below.setCell ?_ ?_ _ | with_reducible refine Below.setRow ?_ ?_ _ | with_reducible refine below_step (by assumption) ?_ ?_ | (show (_ : Nat) ≤ _; first | omega | (simp <;> omega)))⟩
  have h12 := And.intro h1 h2
  rw [h1] at hVT0
  rw [h2] at hVS0
  have HVT := Lib.hid hVT0
  have HVS := Lib.hid hVS0
  clear h1 h2 hVT0 hVS0
  rcases Bool.eq_false_or_eq_true (inB p 0 n) with h3 | h3
  case inr =>
    have HC := Lib.hid (pu_range h12 h3)
    rw [h3] at HWI
    clear h3 h12 hRs0 hcells0
    rw [HC.out.1, HC.out.2]
    go_enter Try.func6, Try.ntmps6
    go_wp2_with (first | (go_at_call 18; refine (HVT.out _ (HH.out.below (by repeat' (first | with_reducible exact Below.refl _ _ | with_reducible assumption | with_reducible refine Below.drew ?_ | with_reducible refine Below.drewN ?_ _ | with_reducible refine Below.alloc ?_ ?_ _ | with_reducible refine Below.setCell ?_ ?_ _ | with_reducible refine Below.setRow ?_ ?_ _ | with_reducible refine below_step (by assumption) ?_ ?_ | (show (_ : Nat) ≤ _; first | omega | (simp <;> omega)))) (Nat.le_refl _)).slV).mono ?_; rintro e w1 ⟨rfl, hb1⟩; have r1 := keep_rowA hb1; have f1 := keep_frA hb1; have s1 := hb1.size; (try simp only [World.size_alloc, World.size_setCell, setRow_size, World.size_drew, size_drewNm] at r1 f1 s1)) | (go_at_call 19; refine (HVS.out w.heap.size _ (by (go_simp <;> (intros; omega))) (by first | omega | (simp <;> omega))).mono ?_; rintro e w1 ⟨rfl, hb1⟩; have r1 := keep_rowA hb1; have f1 := keep_frA hb1; have s1 := hb1.size; (try simp only [World.size_alloc, World.size_setCell, setRow_size, World.size_drew, size_drewNm] at r1 f1 s1)) | (go_at_call 20; (with_reducible refine (HWI.out _).mono ?_); rintro e wz ⟨rfl, rfl⟩))
    refine bodyPost_ret (v := .tuple #[.slice (some ⟨_, 0, none⟩) 0 0, .int .i64 2]) (res_tt rfl rfl rfl) rfl ⟨_, rfl, .inr ⟨_, _, rfl, by first | omega | (simp <;> omega), by simp, by (go_simp <;> (intros; omega)), by omega, fun k hk => absurd hk (by omega)⟩, by repeat' (first | with_reducible exact Below.refl _ _ | with_reducible assumption | with_reducible refine Below.drew ?_ | with_reducible refine Below.drewN ?_ _ | with_reducible refine Below.alloc ?_ ?_ _ | with_reducible refine Below.setCell ?_ ?_ _ | with_reducible refine Below.setRow ?_ ?_ _ | with_reducible refine below_step (by assumption) ?_ ?_ | (show (_ : Nat) ≤ _; first | omega | (simp <;> omega)))⟩
  obtain ⟨a, rfl⟩ : ∃ a : Nat, p = a := ⟨p.toNat, by have := (inB_true.1 h3).1; omega⟩
  have ha : a ≤ n := by have := (inB_true.1 h3).2; omega
  have hpa : ((a : Int)).toNat = a := Int.toNat_natCast a
  rw [h3] at HWI
  have hn6 : ((n : Int) == 6) = decide (n = 6) := by rw [Bool.eq_iff_iff]; simp; omega
  obtain ⟨i0, z0, hi0, hz0, hs0, hb0, hc0⟩ := sheet_info
  have HI := Lib.hid (And.intro hi0 (And.intro hz0 (And.intro hs0 (And.intro hb0 hc0))))
  clear hi0 hz0 hs0 hb0 hc0
  obtain ⟨R, hR⟩ : ∃ R, rowOf w g = R := ⟨_, rfl⟩
  rw [hR] at hRs0 hcells0
  have HCL := Lib.hid hcells0
  by_cases hst : 0 < n ∧ sidesB d (F 0) = false
  · obtain ⟨hn0, h4⟩ := hst
    have HC := Lib.hid (pu_state h12 h3 ⟨hn0, h4⟩)
    have e0 : R[0]? = some (.int .i8 (F 0 0)) := hcells0 0 hn0 0 (by omega)
    have e1 : R[1]? = some (.int .i8 (F 0 1)) := hcells0 0 hn0 1 (by omega)
    have hgt : (0 : Int) < (n : Int) := by omega
    clear hcells0 h12 h3
    rw [HC.out.1, HC.out.2]
    by_cases hc0 : F 0 0 = d 0
    · have hc1 : (F 0 1 == d 1) = false := by
        unfold sidesB at h4
        rw [hc0] at h4
        simp at h4
        rw [beq_eq_false_iff_ne]
        exact fun e => h4 e.symm
      have hc2 : ¬ F 0 1 = d 1 := by simpa using hc1
      clear h4
      go_enter Try.func6, Try.ntmps6
      go_wp2_with (first | (go_at_call 18; refine (HVT.out _ (HH.out.below (by repeat' (first | with_reducible exact Below.refl _ _ | with_reducible assumption | with_reducible refine Below.drew ?_ | with_reducible refine Below.drewN ?_ _ | with_reducible refine Below.alloc ?_ ?_ _ | with_reducible refine Below.setCell ?_ ?_ _ | with_reducible refine Below.setRow ?_ ?_ _ | with_reducible refine below_step (by assumption) ?_ ?_ | (show (_ : Nat) ≤ _; first | omega | (simp <;> omega)))) (Nat.le_refl _)).slV).mono ?_; rintro e w1 ⟨rfl, hb1⟩; have r1 := keep_rowA hb1; have f1 := keep_frA hb1; have s1 := hb1.size; (try simp only [World.size_alloc, World.size_setCell, setRow_size, World.size_drew, size_drewNm] at r1 f1 s1)) | (go_at_call 19; refine (HVS.out w.heap.size _ (by (go_simp <;> (intros; omega))) (by first | omega | (simp <;> omega))).mono ?_; rintro e w1 ⟨rfl, hb1⟩; have r1 := keep_rowA hb1; have f1 := keep_frA hb1; have s1 := hb1.size; (try simp only [World.size_alloc, World.size_setCell, setRow_size, World.size_drew, size_drewNm] at r1 f1 s1)) | (go_at_call 20; (with_reducible refine (HWI.out _).mono ?_); rintro e wz ⟨rfl, rfl⟩))
      go_quiet (fail)
      go_wp2
      refine bodyPost_ret (v := .tuple #[.slice (some ⟨_, 0, none⟩) 0 0, .int .i64 4]) (res_tt rfl rfl rfl) rfl ⟨_, rfl, .inr ⟨_, _, rfl, by first | omega | (simp <;> omega), by simp, by (go_simp <;> (intros; omega)), by omega, fun k hk => absurd hk (by omega)⟩, by repeat' (first | with_reducible exact Below.refl _ _ | with_reducible assumption | with_reducible refine Below.drew ?_ | with_reducible refine Below.drewN ?_ _ | with_reducible refine Below.alloc ?_ ?_ _ | with_reducible refine Below.setCell ?_ ?_ _ | with_reducible refine Below.setRow ?_ ?_ _ | with_reducible refine below_step (by assumption) ?_ ?_ | (show (_ : Nat) ≤ _; first | omega | (simp <;> omega)))⟩
    · have hc1 : (F 0 0 == d 0) = false := by simpa using hc0
      clear h4
      go_enter Try.func6, Try.ntmps6
      go_wp2_with (first | (go_at_call 18; refine (HVT.out _ (HH.out.below (by repeat' (first | with_reducible exact Below.refl _ _ | with_reducible assumption | with_reducible refine Below.drew ?_ | with_reducible refine Below.drewN ?_ _ | with_reducible refine Below.alloc ?_ ?_ _ | with_reducible refine Below.setCell ?_ ?_ _ | with_reducible refine Below.setRow ?_ ?_ _ | with_reducible refine below_step (by assumption) ?_ ?_ | (show (_ : Nat) ≤ _; first | omega | (simp <;> omega)))) (Nat.le_refl _)).slV).mono ?_; rintro e w1 ⟨rfl, hb1⟩; have r1 := keep_rowA hb1; have f1 := keep_frA hb1; have s1 := hb1.size; (try simp only [World.size_alloc, World.size_setCell, setRow_size, World.size_drew, size_drewNm] at r1 f1 s1)) | (go_at_call 19; refine (HVS.out w.heap.size _ (by (go_simp <;> (intros; omega))) (by first | omega | (simp <;> omega))).mono ?_; rintro e w1 ⟨rfl, hb1⟩; have r1 := keep_rowA hb1; have f1 := keep_frA hb1; have s1 := hb1.size; (try simp only [World.size_alloc, World.size_setCell, setRow_size, World.size_drew, size_drewNm] at r1 f1 s1)) | (go_at_call 20; (with_reducible refine (HWI.out _).mono ?_); rintro e wz ⟨rfl, rfl⟩))
      go_quiet (fail)
      go_wp2
      refine bodyPost_ret (v := .tuple #[.slice (some ⟨_, 0, none⟩) 0 0, .int .i64 4]) (res_tt rfl rfl rfl) rfl ⟨_, rfl, .inr ⟨_, _, rfl, by first | omega | (simp <;> omega), by simp, by (go_simp <;> (intros; omega)), by omega, fun k hk => absurd hk (by omega)⟩, by repeat' (first | with_reducible exact Below.refl _ _ | with_reducible assumption | with_reducible refine Below.drew ?_ | with_reducible refine Below.drewN ?_ _ | with_reducible refine Below.alloc ?_ ?_ _ | with_reducible refine Below.setCell ?_ ?_ _ | with_reducible refine Below.setRow ?_ ?_ _ | with_reducible refine below_step (by assumption) ?_ ?_ | (show (_ : Nat) ≤ _; first | omega | (simp <;> omega)))⟩
  -- GEN
  have HNW := Lib.hid (show ∀ W : World, rowOf W g = R → ∀ j u, (shL F a)[j]? = some u → W.cell? ((⟨g, 0, none⟩ : Addr).add j) = some u from fun W hW j u hj => by
    have : ((⟨g, 0, none⟩ : Addr).add j) = ⟨g, j, none⟩ := by unfold Addr.add; split <;> simp_all
    obtain ⟨hlt, rfl⟩ := shL_get hj
    have e := HCL.out (j / 266) (by omega) (j % 266) (by omega)
    rw [show j / 266 * 266 + j % 266 = j by omega] at e
    rw [this, cell_row, hW]
    exact e)
  have HND := Lib.hid (show ∀ W : World, rowOf W g = R → ∀ j u, ((shL F n).drop (a * 266))[j]? = some u → W.cell? ((⟨g, a * 266, none⟩ : Addr).add j) = some u from fun W hW j u hj => by
    have : ((⟨g, a * 266, none⟩ : Addr).add j) = ⟨g, a * 266 + j, none⟩ := by unfold Addr.add; split <;> simp_all
    rw [List.getElem?_drop] at hj
    obtain ⟨hlt, rfl⟩ := shL_get hj
    have e := HCL.out ((a * 266 + j) / 266) (by omega) ((a * 266 + j) % 266) (by omega)
    rw [show (a * 266 + j) / 266 * 266 + (a * 266 + j) % 266 = a * 266 + j by omega] at e
    rw [this, cell_row, hW]
    exact e)
  have HONE := Lib.hid (show ∀ u ∈ (shL F n).drop (a * 266), u.oneCell' = true from fun u hu => shL_one u (List.mem_of_mem_drop hu))
  rcases Nat.eq_zero_or_pos n with hn0 | hn0
  · have HC := Lib.hid (pu_good h12 h3 (fun g => absurd g.1 (by omega)) (by omega))
    have hg1 : decide (0 < (n : Int)) = false := decide_eq_false (by omega)
    have hg2 : decide (0 < n) = false := decide_eq_false (by omega)
    have hg3 : ¬ (0 : Int) < (n : Int) := by omega
    have hg4 : ¬ 0 < n := by omega
    have he6 : ((n : Int) == 6) = false := by rw [hn6]; exact decide_eq_false (by omega)
    have he7 : ¬ (n : Int) = 6 := by omega
    clear h12 h3 hst hcells0 hn0
    go_enter Try.func6, Try.ntmps6
    go_wp2_with (first | (go_at_call 18; refine (HVT.out _ (HH.out.below (by repeat' (first | with_reducible exact Below.refl _ _ | with_reducible assumption | with_reducible refine Below.drew ?_ | with_reducible refine Below.drewN ?_ _ | with_reducible refine Below.alloc ?_ ?_ _ | with_reducible refine Below.setCell ?_ ?_ _ | with_reducible refine Below.setRow ?_ ?_ _ | with_reducible refine below_step (by assumption) ?_ ?_ | (show (_ : Nat) ≤ _; first | omega | (simp <;> omega)))) (Nat.le_refl _)).slV).mono ?_; rintro e w1 ⟨rfl, hb1⟩; have r1 := keep_rowA hb1; have f1 := keep_frA hb1; have s1 := hb1.size; (try simp only [World.size_alloc, World.size_setCell, setRow_size, World.size_drew, size_drewNm] at r1 f1 s1)) | (go_at_call 19; refine (HVS.out w.heap.size _ (by (go_simp <;> (intros; omega))) (by first | omega | (simp <;> omega))).mono ?_; rintro e w1 ⟨rfl, hb1⟩; have r1 := keep_rowA hb1; have f1 := keep_frA hb1; have s1 := hb1.size; (try simp only [World.size_alloc, World.size_setCell, setRow_size, World.size_drew, size_drewNm] at r1 f1 s1)) | (go_at_call 20; (with_reducible refine (HWI.out _).mono ?_); rintro e wz ⟨rfl, rfl⟩))
    go_quiet (fail)
    go_wp2
    refine wp_world (fun wd hwd => ?_)
    have hbd : Below w.heap.size w wd := by rw [hwd]; repeat' (first | with_reducible exact Below.refl _ _ | with_reducible assumption | with_reducible refine Below.drew ?_ | with_reducible refine Below.drewN ?_ _ | with_reducible refine Below.alloc ?_ ?_ _ | with_reducible refine Below.setCell ?_ ?_ _ | with_reducible refine Below.setRow ?_ ?_ _ | with_reducible refine below_step (by assumption) ?_ ?_ | (show (_ : Nat) ≤ _; first | omega | (simp <;> omega)))
    have hNd : rowOf wd w.heap.size = kc sk 266 d := by rw [hwd]; (go_simp <;> (intros; omega))
    have hGd : rowOf wd g = R := by rw [hwd]; (go_simp <;> (intros; omega))
    have hsd : w.heap.size + 1 ≤ wd.heap.size := by rw [hwd]; first | omega | (simp <;> omega)
    clear hwd
    have hBd : Below wd.heap.size wd wd := Below.refl _ _
    have hBwd : Below wd.heap.size wd wd.drew := Below.drew hBd
    (refine wp_region_held (S := fun w' => rowOf w' (w.heap.size) = kc sk 266 d ∧ rowOf w' (g) = R) (by kernel_rfl) ?_); (simp only [World.drew_eq]); (refine wpAnyH_take (i := 5) rfl (by kernel_rfl) (by kernel_rfl) (by kernel_rfl) (fun _ _ _ h => h) (yieldsIf_load (v := .agg (kc sk 266 d)) rfl rfl rfl (fun w ⟨h0, h1⟩ => by go_simp)) ⟨by go_simp, by go_simp⟩ ?_); (try simp only [Act.put, Act.eval, List.getElem_toArray, List.getElem_cons_zero, List.getElem_cons_succ, List.setIfInBounds_toArray, List.set_cons_zero, List.set_cons_succ, Array.getD_eq_getD_getElem?, List.getElem?_toArray, List.getElem?_cons_zero, List.getElem?_cons_succ, Option.getD_some]); (refine wpAnyH_take (i := 1) rfl (by kernel_rfl) (by kernel_rfl) (by kernel_rfl) (fun _ _ _ h => h) (yieldsIf_move rfl rfl) ⟨by go_simp, by go_simp⟩ ?_); (try simp only [Act.put, Act.eval, List.getElem_toArray, List.getElem_cons_zero, List.getElem_cons_succ, List.setIfInBounds_toArray, List.set_cons_zero, List.set_cons_succ, Array.getD_eq_getD_getElem?, List.getElem?_toArray, List.getElem?_cons_zero, List.getElem?_cons_succ, Option.getD_some]); (refine wpAnyH_take (i := 2) rfl (by kernel_rfl) (by kernel_rfl) (by kernel_rfl) (fun _ _ _ h => h) (yieldsIf_move rfl rfl) ⟨by go_simp, by go_simp⟩ ?_); (try simp only [Act.put, Act.eval, List.getElem_toArray, List.getElem_cons_zero, List.getElem_cons_succ, List.setIfInBounds_toArray, List.set_cons_zero, List.set_cons_succ, Array.getD_eq_getD_getElem?, List.getElem?_toArray, List.getElem?_cons_zero, List.getElem?_cons_succ, Option.getD_some]); (refine wpAnyH_take (i := 3) (v := .slice (some ⟨g, 0, none⟩) a n) rfl (by kernel_rfl) (by kernel_rfl) (by kernel_rfl) (fun _ _ _ h => h) (.inl ⟨by first | (simp [Region.wanted]; done) | rfl | simp [Region.wanted, yielded], fun w _ => by unfold execOp; go_simp⟩) ⟨by go_simp, by go_simp⟩ ?_); (try simp only [Act.put, Act.eval, List.getElem_toArray, List.getElem_cons_zero, List.getElem_cons_succ, List.setIfInBounds_toArray, List.set_cons_zero, List.set_cons_succ, Array.getD_eq_getD_getElem?, List.getElem?_toArray, List.getElem?_cons_zero, List.getElem?_cons_succ, Option.getD_some])
    refine wpAnyH_two (i := 0) (j := 6) (by kernel_rfl) rfl rfl rfl rfl ?h1 ?h2
    case h1 =>
      refine oper_hid (fun RR hRR => ?_)
      refine wp_buildSlice_none 35 rfl 39 i0 Try.underlying35 HI.out.1 (fun w1 hqw1 => ?_)
      have hBw1 : Below wd.heap.size wd w1 := by rw [hqw1]; exact Below.alloc hBwd hBwd.size _
      have hsw1 : w1.heap.size = wd.heap.size + 1 := by rw [hqw1]; simp
      have hOw1 : w1.ownsRow wd.heap.size 39 266 (.slice (some ⟨wd.heap.size, 0, none⟩) 0 0) 0 [] := by rw [hqw1]; exact owns_down (owns_emptyW _ _ _) hBwd.size
      have hNw1 : rowOf w1 w.heap.size = kc sk 266 d := (keep_row hBw1 (by omega)).trans hNd
      have hGw1 : rowOf w1 g = R := (keep_row hBw1 (by omega)).trans hGd
      clear hqw1
      refine hRR _ _ ⟨⟨hNw1, hGw1⟩, ?_⟩
      clear hRR RR
      try simp only [Act.put, Act.eval, List.getElem_toArray, List.getElem_cons_zero, List.getElem_cons_succ, List.setIfInBounds_toArray, List.set_cons_zero, List.set_cons_succ, Array.getD_eq_getD_getElem?, List.getElem?_toArray, List.getElem?_cons_zero, List.getElem?_cons_succ, Option.getD_some]
      refine wpAnyH_two (i := 4) (j := 6) (by kernel_rfl) rfl rfl rfl rfl ?h3 ?h4
      case h3 =>
        refine oper_hid (fun RR hRR => ?_)
        refine wp_append_own _ _ 35 rfl wd.heap.size 39 i0 z0 266 522 Try.underlying35 HI.out.1 HI.out.2.1 HI.out.2.2.1 HI.out.2.2.2.1 HI.out.2.2.2.2 (by decide) _ 0 [] rfl hOw1 ⟨g, 0, none⟩ a n (shL F a) rfl (shL_len F a) (HNW.out _ hGw1) shL_one (by unfold maxLen; omega) (by omega) hBw1.size ?_
        intro v4 w2 hOw2 hgrw2
        rw [Nat.zero_add, List.nil_append] at hOw2
        have hBw2 : Below wd.heap.size wd w2 := below_grown hBw1 hgrw2 (fun k hk => (hOw1.lt k hk).1) hBw1.size
        have hsw2 := hgrw2.size
        have hNw2 : rowOf w2 w.heap.size = kc sk 266 d := (keep_row hBw2 (by omega)).trans hNd
        have hGw2 : rowOf w2 g = R := (keep_row hBw2 (by omega)).trans hGd
        clear hgrw2
        refine hRR _ _ ⟨⟨hNw2, hGw2⟩, ?_⟩
        clear hRR RR
        try simp only [Act.put, Act.eval, List.getElem_toArray, List.getElem_cons_zero, List.getElem_cons_succ, List.setIfInBounds_toArray, List.set_cons_zero, List.set_cons_succ, Array.getD_eq_getD_getElem?, List.getElem?_toArray, List.getElem?_cons_zero, List.getElem?_cons_succ, Option.getD_some]
        refine wpAnyH_one (i := 6) (by kernel_rfl) rfl rfl ?_
        refine oper_hid (fun RR hRR => ?_)
        refine wp_buildSlice_oneW 35 _ rfl 39 i0 z0 266 Try.underlying35 HI.out.1 HI.out.2.1 HI.out.2.2.1 (by decide) (by decide) (kc sk 266 d) (kc_size _ _ _) rfl (fun w3 hqw3 => ?_)
        have hBw3 : Below wd.heap.size wd w3 := by rw [hqw3]; exact Below.alloc hBw2 hBw2.size _
        have hsw3 : w3.heap.size = w2.heap.size + 1 := by rw [hqw3]; simp
        have hVw3 : w3.heap[w2.heap.size]? = some (.cells (kc sk 266 d) 39 (0, 0)) := by rw [hqw3]; exact heap_alloc_new _ _
        have hOw3 : w3.ownsRow wd.heap.size 39 266 v4 a (shL F a) := by rw [hqw3]; exact hOw2.alloc _
        have hNw3 : rowOf w3 w.heap.size = kc sk 266 d := (keep_row hBw3 (by omega)).trans hNd
        have hGw3 : rowOf w3 g = R := (keep_row hBw3 (by omega)).trans hGd
        clear hqw3
        refine hRR _ _ ⟨⟨hNw3, hGw3⟩, ?_⟩
        clear hRR RR
        try simp only [Act.put, Act.eval, List.getElem_toArray, List.getElem_cons_zero, List.getElem_cons_succ, List.setIfInBounds_toArray, List.set_cons_zero, List.set_cons_succ, Array.getD_eq_getD_getElem?, List.getElem?_toArray, List.getElem?_cons_zero, List.getElem?_cons_succ, Option.getD_some]
        refine wpAnyH_one (i := 7) (by kernel_rfl) rfl rfl ?_
        refine oper_hid (fun RR hRR => ?_)
        refine wp_append_own _ _ 35 rfl wd.heap.size 39 i0 z0 266 522 Try.underlying35 HI.out.1 HI.out.2.1 HI.out.2.2.1 HI.out.2.2.2.1 HI.out.2.2.2.2 (by decide) v4 a (shL F a) rfl hOw3 ⟨w2.heap.size, 0, none⟩ 1 1 (kc sk 266 d).toList rfl (by rw [Array.length_toList, kc_size]) (kc_cells (show rowOf w3 w2.heap.size = kc sk 266 d by simp [rowOf, hVw3, objRow])) (kc_ones d) (by unfold maxLen; omega) (by omega) hBw3.size ?_
        intro v7 w4 hOw4 hgrw4
        have hBw4 : Below wd.heap.size wd w4 := below_grown hBw3 hgrw4 (fun k hk => (hOw3.lt k hk).1) hBw3.size
        have hsw4 := hgrw4.size
        have hNw4 : rowOf w4 w.heap.size = kc sk 266 d := (keep_row hBw4 (by omega)).trans hNd
        have hGw4 : rowOf w4 g = R := (keep_row hBw4 (by omega)).trans hGd
        clear hgrw4
        refine hRR _ _ ⟨⟨hNw4, hGw4⟩, ?_⟩
        clear hRR RR
        try simp only [Act.put, Act.eval, List.getElem_toArray, List.getElem_cons_zero, List.getElem_cons_succ, List.setIfInBounds_toArray, List.set_cons_zero, List.set_cons_succ, Array.getD_eq_getD_getElem?, List.getElem?_toArray, List.getElem?_cons_zero, List.getElem?_cons_succ, Option.getD_some]
        refine wpAnyH_take (i := 8) rfl (by kernel_rfl) (by kernel_rfl) (by kernel_rfl) (fun _ _ _ h => h) (yieldsIf_assign rfl rfl) ⟨hNw4, hGw4⟩ ?_
        try simp only [Act.put, Act.eval, List.getElem_toArray, List.getElem_cons_zero, List.getElem_cons_succ, List.setIfInBounds_toArray, List.set_cons_zero, List.set_cons_succ, Array.getD_eq_getD_getElem?, List.getElem?_toArray, List.getElem?_cons_zero, List.getElem?_cons_succ, Option.getD_some]
        refine wpAnyH_done (by kernel_rfl) ?_ _
        obtain ⟨b7, c7, rfl⟩ : ∃ b7 c7, v7 = .slice b7 (a + 1) c7 := by
          rcases hOw4.2 with ⟨rfl, h0⟩ | ⟨g7, cap7, cur7, rfl, -⟩
          · omega
          · exact ⟨_, _, rfl⟩
        by_cases han : a = n
        · subst han
          go_wp2_with (at_builtin; refine wpList_append_own _ rfl _ _ 35 rfl wd.heap.size 39 i0 z0 266 522 Try.underlying35 HI.out.1 HI.out.2.1 HI.out.2.2.1 HI.out.2.2.2.1 HI.out.2.2.2.2 (by decide) _ (a + 1) _ rfl hOw4 ⟨g, 0, none⟩ 0 0 [] rfl rfl (fun j u hj => by cases hj) (fun u hu => by cases hu) (by unfold maxLen; omega) (by omega) hBw4.size ?_)
          intro v8 w8 hO8 hgr8 _
          have hB8 : Below wd.heap.size wd w8 := below_grown hBw4 hgr8 (fun k hk => (hOw4.lt k hk).1) hBw4.size
          try simp only [List.append_nil, Nat.add_zero] at hO8
          have HO8 := Lib.hid ((OwnV.of (V := shV (insF F a d)) hO8 (fun k hk j hj => ins_end k hk j hj)).down (b' := w.heap.size) (by omega))
          have HB8 := Lib.hid (hbd.trans (below_le hB8 (by omega)))
          clear hO8 hgr8 hB8
          go_wp2
          refine bodyPost_ret (v := .tuple #[v8, .int .i64 0]) (res_tt rfl rfl rfl) rfl ⟨_, by rw [HC.out.1], by rw [HC.out.2]; exact HO8.out, HB8.out⟩
        · have han2 : ¬ n = a := fun e => han e.symm
          have han3 : (a : Int) ≤ (n : Int) := by omega
          go_wp2_with (at_builtin; refine wpList_append_own _ rfl _ _ 35 rfl wd.heap.size 39 i0 z0 266 522 Try.underlying35 HI.out.1 HI.out.2.1 HI.out.2.2.1 HI.out.2.2.2.1 HI.out.2.2.2.2 (by decide) _ (a + 1) _ rfl hOw4 ⟨g, a * 266, none⟩ (n - a) (n - a) ((shL F n).drop (a * 266)) rfl (by rw [List.length_drop, shL_len]; omega) (HND.out _ hGw4) HONE.out (by unfold maxLen; omega) (by omega) hBw4.size ?_)
          intro v8 w8 hO8 hgr8 _
          have hB8 : Below wd.heap.size wd w8 := below_grown hBw4 hgr8 (fun k hk => (hOw4.lt k hk).1) hBw4.size
          try rw [show a + 1 + (n - a) = n + 1 by omega] at hO8
          have HO8 := Lib.hid ((OwnV.of (V := shV (insF F a d)) hO8 (fun k hk j hj => by first | exact ins_cat ha k hk j hj | (rw [← List.append_assoc]; exact ins_cat ha k hk j hj))).down (b' := w.heap.size) (by omega))
          have HB8 := Lib.hid (hbd.trans (below_le hB8 (by omega)))
          clear hO8 hgr8 hB8
          go_wp2
          refine bodyPost_ret (v := .tuple #[v8, .int .i64 0]) (res_tt rfl rfl rfl) rfl ⟨_, by rw [HC.out.1], by rw [HC.out.2]; exact HO8.out, HB8.out⟩
      case h4 =>
        refine oper_hid (fun RR hRR => ?_)
        refine wp_buildSlice_oneW 35 _ rfl 39 i0 z0 266 Try.underlying35 HI.out.1 HI.out.2.1 HI.out.2.2.1 (by decide) (by decide) (kc sk 266 d) (kc_size _ _ _) rfl (fun w2 hqw2 => ?_)
        have hBw2 : Below wd.heap.size wd w2 := by rw [hqw2]; exact Below.alloc hBw1 hBw1.size _
        have hsw2 : w2.heap.size = w1.heap.size + 1 := by rw [hqw2]; simp
        have hVw2 : w2.heap[w1.heap.size]? = some (.cells (kc sk 266 d) 39 (0, 0)) := by rw [hqw2]; exact heap_alloc_new _ _
        have hOw2 : w2.ownsRow wd.heap.size 39 266 (.slice (some ⟨wd.heap.size, 0, none⟩) 0 0) 0 [] := by rw [hqw2]; exact hOw1.alloc _
        have hNw2 : rowOf w2 w.heap.size = kc sk 266 d := (keep_row hBw2 (by omega)).trans hNd
        have hGw2 : rowOf w2 g = R := (keep_row hBw2 (by omega)).trans hGd
        clear hqw2
        refine hRR _ _ ⟨⟨hNw2, hGw2⟩, ?_⟩
        clear hRR RR
        try simp only [Act.put, Act.eval, List.getElem_toArray, List.getElem_cons_zero, List.getElem_cons_succ, List.setIfInBounds_toArray, List.set_cons_zero, List.set_cons_succ, Array.getD_eq_getD_getElem?, List.getElem?_toArray, List.getElem?_cons_zero, List.getElem?_cons_succ, Option.getD_some]
        refine wpAnyH_one (i := 4) (by kernel_rfl) rfl rfl ?_
        refine oper_hid (fun RR hRR => ?_)
        refine wp_append_own _ _ 35 rfl wd.heap.size 39 i0 z0 266 522 Try.underlying35 HI.out.1 HI.out.2.1 HI.out.2.2.1 HI.out.2.2.2.1 HI.out.2.2.2.2 (by decide) _ 0 [] rfl hOw2 ⟨g, 0, none⟩ a n (shL F a) rfl (shL_len F a) (HNW.out _ hGw2) shL_one (by unfold maxLen; omega) (by omega) hBw2.size ?_
        intro v4 w3 hOw3 hgrw3
        rw [Nat.zero_add, List.nil_append] at hOw3
        have hBw3 : Below wd.heap.size wd w3 := below_grown hBw2 hgrw3 (fun k hk => (hOw2.lt k hk).1) hBw2.size
        have hsw3 := hgrw3.size
        have hVw3 : w3.heap[w1.heap.size]? = some (.cells (kc sk 266 d) 39 (0, 0)) := (hgrw3.block w1.heap.size (by omega) (fun e => absurd (Option.some.inj (show some (w1.heap.size) = some (wd.heap.size) from e)) (by omega))).trans hVw2
        have hNw3 : rowOf w3 w.heap.size = kc sk 266 d := (keep_row hBw3 (by omega)).trans hNd
        have hGw3 : rowOf w3 g = R := (keep_row hBw3 (by omega)).trans hGd
        clear hgrw3
        refine hRR _ _ ⟨⟨hNw3, hGw3⟩, ?_⟩
        clear hRR RR
        try simp only [Act.put, Act.eval, List.getElem_toArray, List.getElem_cons_zero, List.getElem_cons_succ, List.setIfInBounds_toArray, List.set_cons_zero, List.set_cons_succ, Array.getD_eq_getD_getElem?, List.getElem?_toArray, List.getElem?_cons_zero, List.getElem?_cons_succ, Option.getD_some]
        refine wpAnyH_one (i := 7) (by kernel_rfl) rfl rfl ?_
        refine oper_hid (fun RR hRR => ?_)
        refine wp_append_own _ _ 35 rfl wd.heap.size 39 i0 z0 266 522 Try.underlying35 HI.out.1 HI.out.2.1 HI.out.2.2.1 HI.out.2.2.2.1 HI.out.2.2.2.2 (by decide) v4 a (shL F a) rfl hOw3 ⟨w1.heap.size, 0, none⟩ 1 1 (kc sk 266 d).toList rfl (by rw [Array.length_toList, kc_size]) (kc_cells (show rowOf w3 w1.heap.size = kc sk 266 d by simp [rowOf, hVw3, objRow])) (kc_ones d) (by unfold maxLen; omega) (by omega) hBw3.size ?_
        intro v7 w4 hOw4 hgrw4
        have hBw4 : Below wd.heap.size wd w4 := below_grown hBw3 hgrw4 (fun k hk => (hOw3.lt k hk).1) hBw3.size
        have hsw4 := hgrw4.size
        have hNw4 : rowOf w4 w.heap.size = kc sk 266 d := (keep_row hBw4 (by omega)).trans hNd
        have hGw4 : rowOf w4 g = R := (keep_row hBw4 (by omega)).trans hGd
        clear hgrw4
        refine hRR _ _ ⟨⟨hNw4, hGw4⟩, ?_⟩
        clear hRR RR
        try simp only [Act.put, Act.eval, List.getElem_toArray, List.getElem_cons_zero, List.getElem_cons_succ, List.setIfInBounds_toArray, List.set_cons_zero, List.set_cons_succ, Array.getD_eq_getD_getElem?, List.getElem?_toArray, List.getElem?_cons_zero, List.getElem?_cons_succ, Option.getD_some]
        refine wpAnyH_take (i := 8) rfl (by kernel_rfl) (by kernel_rfl) (by kernel_rfl) (fun _ _ _ h => h) (yieldsIf_assign rfl rfl) ⟨hNw4, hGw4⟩ ?_
        try simp only [Act.put, Act.eval, List.getElem_toArray, List.getElem_cons_zero, List.getElem_cons_succ, List.setIfInBounds_toArray, List.set_cons_zero, List.set_cons_succ, Array.getD_eq_getD_getElem?, List.getElem?_toArray, List.getElem?_cons_zero, List.getElem?_cons_succ, Option.getD_some]
        refine wpAnyH_done (by kernel_rfl) ?_ _
        obtain ⟨b7, c7, rfl⟩ : ∃ b7 c7, v7 = .slice b7 (a + 1) c7 := by
          rcases hOw4.2 with ⟨rfl, h0⟩ | ⟨g7, cap7, cur7, rfl, -⟩
          · omega
          · exact ⟨_, _, rfl⟩
        by_cases han : a = n
        · subst han
          go_wp2_with (at_builtin; refine wpList_append_own _ rfl _ _ 35 rfl wd.heap.size 39 i0 z0 266 522 Try.underlying35 HI.out.1 HI.out.2.1 HI.out.2.2.1 HI.out.2.2.2.1 HI.out.2.2.2.2 (by decide) _ (a + 1) _ rfl hOw4 ⟨g, 0, none⟩ 0 0 [] rfl rfl (fun j u hj => by cases hj) (fun u hu => by cases hu) (by unfold maxLen; omega) (by omega) hBw4.size ?_)
          intro v8 w8 hO8 hgr8 _
          have hB8 : Below wd.heap.size wd w8 := below_grown hBw4 hgr8 (fun k hk => (hOw4.lt k hk).1) hBw4.size
          try simp only [List.append_nil, Nat.add_zero] at hO8
          have HO8 := Lib.hid ((OwnV.of (V := shV (insF F a d)) hO8 (fun k hk j hj => ins_end k hk j hj)).down (b' := w.heap.size) (by omega))
          have HB8 := Lib.hid (hbd.trans (below_le hB8 (by omega)))
          clear hO8 hgr8 hB8
          go_wp2
          refine bodyPost_ret (v := .tuple #[v8, .int .i64 0]) (res_tt rfl rfl rfl) rfl ⟨_, by rw [HC.out.1], by rw [HC.out.2]; exact HO8.out, HB8.out⟩
        · have han2 : ¬ n = a := fun e => han e.symm
          have han3 : (a : Int) ≤ (n : Int) := by omega
          go_wp2_with (at_builtin; refine wpList_append_own _ rfl _ _ 35 rfl wd.heap.size 39 i0 z0 266 522 Try.underlying35 HI.out.1 HI.out.2.1 HI.out.2.2.1 HI.out.2.2.2.1 HI.out.2.2.2.2 (by decide) _ (a + 1) _ rfl hOw4 ⟨g, a * 266, none⟩ (n - a) (n - a) ((shL F n).drop (a * 266)) rfl (by rw [List.length_drop, shL_len]; omega) (HND.out _ hGw4) HONE.out (by unfold maxLen; omega) (by omega) hBw4.size ?_)
          intro v8 w8 hO8 hgr8 _
          have hB8 : Below wd.heap.size wd w8 := below_grown hBw4 hgr8 (fun k hk => (hOw4.lt k hk).1) hBw4.size
          try rw [show a + 1 + (n - a) = n + 1 by omega] at hO8
          have HO8 := Lib.hid ((OwnV.of (V := shV (insF F a d)) hO8 (fun k hk j hj => by first | exact ins_cat ha k hk j hj | (rw [← List.append_assoc]; exact ins_cat ha k hk j hj))).down (b' := w.heap.size) (by omega))
          have HB8 := Lib.hid (hbd.trans (below_le hB8 (by omega)))
          clear hO8 hgr8 hB8
          go_wp2
          refine bodyPost_ret (v := .tuple #[v8, .int .i64 0]) (res_tt rfl rfl rfl) rfl ⟨_, by rw [HC.out.1], by rw [HC.out.2]; exact HO8.out, HB8.out⟩
    case h2 =>
      refine oper_hid (fun RR hRR => ?_)
      refine wp_buildSlice_oneW 35 _ rfl 39 i0 z0 266 Try.underlying35 HI.out.1 HI.out.2.1 HI.out.2.2.1 (by decide) (by decide) (kc sk 266 d) (kc_size _ _ _) rfl (fun w1 hqw1 => ?_)
      have hBw1 : Below wd.heap.size wd w1 := by rw [hqw1]; exact Below.alloc hBwd hBwd.size _
      have hsw1 : w1.heap.size = wd.heap.size + 1 := by rw [hqw1]; simp
      have hVw1 : w1.heap[wd.heap.size]? = some (.cells (kc sk 266 d) 39 (0, 0)) := by rw [hqw1]; exact heap_alloc_new _ _
      have hNw1 : rowOf w1 w.heap.size = kc sk 266 d := (keep_row hBw1 (by omega)).trans hNd
      have hGw1 : rowOf w1 g = R := (keep_row hBw1 (by omega)).trans hGd
      clear hqw1
      refine hRR _ _ ⟨⟨hNw1, hGw1⟩, ?_⟩
      clear hRR RR
      try simp only [Act.put, Act.eval, List.getElem_toArray, List.getElem_cons_zero, List.getElem_cons_succ, List.setIfInBounds_toArray, List.set_cons_zero, List.set_cons_succ, Array.getD_eq_getD_getElem?, List.getElem?_toArray, List.getElem?_cons_zero, List.getElem?_cons_succ, Option.getD_some]
      refine wpAnyH_one (i := 0) (by kernel_rfl) rfl rfl ?_
      refine oper_hid (fun RR hRR => ?_)
      refine wp_buildSlice_none 35 rfl 39 i0 Try.underlying35 HI.out.1 (fun w2 hqw2 => ?_)
      have hBw2 : Below wd.heap.size wd w2 := by rw [hqw2]; exact Below.alloc hBw1 hBw1.size _
      have hsw2 : w2.heap.size = w1.heap.size + 1 := by rw [hqw2]; simp
      have hOw2 : w2.ownsRow wd.heap.size 39 266 (.slice (some ⟨w1.heap.size, 0, none⟩) 0 0) 0 [] := by rw [hqw2]; exact owns_down (owns_emptyW _ _ _) hBw1.size
      have hVw2 : w2.heap[wd.heap.size]? = some (.cells (kc sk 266 d) 39 (0, 0)) := by rw [hqw2]; exact (heap_alloc_old _ _ (by omega)).trans hVw1
      have hNw2 : rowOf w2 w.heap.size = kc sk 266 d := (keep_row hBw2 (by omega)).trans hNd
      have hGw2 : rowOf w2 g = R := (keep_row hBw2 (by omega)).trans hGd
      clear hqw2
      refine hRR _ _ ⟨⟨hNw2, hGw2⟩, ?_⟩
      clear hRR RR
      try simp only [Act.put, Act.eval, List.getElem_toArray, List.getElem_cons_zero, List.getElem_cons_succ, List.setIfInBounds_toArray, List.set_cons_zero, List.set_cons_succ, Array.getD_eq_getD_getElem?, List.getElem?_toArray, List.getElem?_cons_zero, List.getElem?_cons_succ, Option.getD_some]
      refine wpAnyH_one (i := 4) (by kernel_rfl) rfl rfl ?_
      refine oper_hid (fun RR hRR => ?_)
      refine wp_append_own _ _ 35 rfl wd.heap.size 39 i0 z0 266 522 Try.underlying35 HI.out.1 HI.out.2.1 HI.out.2.2.1 HI.out.2.2.2.1 HI.out.2.2.2.2 (by decide) _ 0 [] rfl hOw2 ⟨g, 0, none⟩ a n (shL F a) rfl (shL_len F a) (HNW.out _ hGw2) shL_one (by unfold maxLen; omega) (by omega) hBw2.size ?_
      intro v4 w3 hOw3 hgrw3
      rw [Nat.zero_add, List.nil_append] at hOw3
      have hBw3 : Below wd.heap.size wd w3 := below_grown hBw2 hgrw3 (fun k hk => (hOw2.lt k hk).1) hBw2.size
      have hsw3 := hgrw3.size
      have hVw3 : w3.heap[wd.heap.size]? = some (.cells (kc sk 266 d) 39 (0, 0)) := (hgrw3.block wd.heap.size (by omega) (fun e => absurd (Option.some.inj (show some (wd.heap.size) = some (w1.heap.size) from e)) (by omega))).trans hVw2
      have hNw3 : rowOf w3 w.heap.size = kc sk 266 d := (keep_row hBw3 (by omega)).trans hNd
      have hGw3 : rowOf w3 g = R := (keep_row hBw3 (by omega)).trans hGd
      clear hgrw3
      refine hRR _ _ ⟨⟨hNw3, hGw3⟩, ?_⟩
      clear hRR RR
      try simp only [Act.put, Act.eval, List.getElem_toArray, List.getElem_cons_zero, List.getElem_cons_succ, List.setIfInBounds_toArray, List.set_cons_zero, List.set_cons_succ, Array.getD_eq_getD_getElem?, List.getElem?_toArray, List.getElem?_cons_zero, List.getElem?_cons_succ, Option.getD_some]
      refine wpAnyH_one (i := 7) (by kernel_rfl) rfl rfl ?_
      refine oper_hid (fun RR hRR => ?_)
      refine wp_append_own _ _ 35 rfl wd.heap.size 39 i0 z0 266 522 Try.underlying35 HI.out.1 HI.out.2.1 HI.out.2.2.1 HI.out.2.2.2.1 HI.out.2.2.2.2 (by decide) v4 a (shL F a) rfl hOw3 ⟨wd.heap.size, 0, none⟩ 1 1 (kc sk 266 d).toList rfl (by rw [Array.length_toList, kc_size]) (kc_cells (show rowOf w3 wd.heap.size = kc sk 266 d by simp [rowOf, hVw3, objRow])) (kc_ones d) (by unfold maxLen; omega) (by omega) hBw3.size ?_
      intro v7 w4 hOw4 hgrw4
      have hBw4 : Below wd.heap.size wd w4 := below_grown hBw3 hgrw4 (fun k hk => (hOw3.lt k hk).1) hBw3.size
      have hsw4 := hgrw4.size
      have hNw4 : rowOf w4 w.heap.size = kc sk 266 d := (keep_row hBw4 (by omega)).trans hNd
      have hGw4 : rowOf w4 g = R := (keep_row hBw4 (by omega)).trans hGd
      clear hgrw4
      refine hRR _ _ ⟨⟨hNw4, hGw4⟩, ?_⟩
      clear hRR RR
      try simp only [Act.put, Act.eval, List.getElem_toArray, List.getElem_cons_zero, List.getElem_cons_succ, List.setIfInBounds_toArray, List.set_cons_zero, List.set_cons_succ, Array.getD_eq_getD_getElem?, List.getElem?_toArray, List.getElem?_cons_zero, List.getElem?_cons_succ, Option.getD_some]
      refine wpAnyH_take (i := 8) rfl (by kernel_rfl) (by kernel_rfl) (by kernel_rfl) (fun _ _ _ h => h) (yieldsIf_assign rfl rfl) ⟨hNw4, hGw4⟩ ?_
      try simp only [Act.put, Act.eval, List.getElem_toArray, List.getElem_cons_zero, List.getElem_cons_succ, List.setIfInBounds_toArray, List.set_cons_zero, List.set_cons_succ, Array.getD_eq_getD_getElem?, List.getElem?_toArray, List.getElem?_cons_zero, List.getElem?_cons_succ, Option.getD_some]
      refine wpAnyH_done (by kernel_rfl) ?_ _
      obtain ⟨b7, c7, rfl⟩ : ∃ b7 c7, v7 = .slice b7 (a + 1) c7 := by
        rcases hOw4.2 with ⟨rfl, h0⟩ | ⟨g7, cap7, cur7, rfl, -⟩
        · omega
        · exact ⟨_, _, rfl⟩
      by_cases han : a = n
      · subst han
        go_wp2_with (at_builtin; refine wpList_append_own _ rfl _ _ 35 rfl wd.heap.size 39 i0 z0 266 522 Try.underlying35 HI.out.1 HI.out.2.1 HI.out.2.2.1 HI.out.2.2.2.1 HI.out.2.2.2.2 (by decide) _ (a + 1) _ rfl hOw4 ⟨g, 0, none⟩ 0 0 [] rfl rfl (fun j u hj => by cases hj) (fun u hu => by cases hu) (by unfold maxLen; omega) (by omega) hBw4.size ?_)
        intro v8 w8 hO8 hgr8 _
        have hB8 : Below wd.heap.size wd w8 := below_grown hBw4 hgr8 (fun k hk => (hOw4.lt k hk).1) hBw4.size
        try simp only [List.append_nil, Nat.add_zero] at hO8
        have HO8 := Lib.hid ((OwnV.of (V := shV (insF F a d)) hO8 (fun k hk j hj => ins_end k hk j hj)).down (b' := w.heap.size) (by omega))
        have HB8 := Lib.hid (hbd.trans (below_le hB8 (by omega)))
        clear hO8 hgr8 hB8
        go_wp2
        refine bodyPost_ret (v := .tuple #[v8, .int .i64 0]) (res_tt rfl rfl rfl) rfl ⟨_, by rw [HC.out.1], by rw [HC.out.2]; exact HO8.out, HB8.out⟩
      · have han2 : ¬ n = a := fun e => han e.symm
        have han3 : (a : Int) ≤ (n : Int) := by omega
        go_wp2_with (at_builtin; refine wpList_append_own _ rfl _ _ 35 rfl wd.heap.size 39 i0 z0 266 522 Try.underlying35 HI.out.1 HI.out.2.1 HI.out.2.2.1 HI.out.2.2.2.1 HI.out.2.2.2.2 (by decide) _ (a + 1) _ rfl hOw4 ⟨g, a * 266, none⟩ (n - a) (n - a) ((shL F n).drop (a * 266)) rfl (by rw [List.length_drop, shL_len]; omega) (HND.out _ hGw4) HONE.out (by unfold maxLen; omega) (by omega) hBw4.size ?_)
        intro v8 w8 hO8 hgr8 _
        have hB8 : Below wd.heap.size wd w8 := below_grown hBw4 hgr8 (fun k hk => (hOw4.lt k hk).1) hBw4.size
        try rw [show a + 1 + (n - a) = n + 1 by omega] at hO8
        have HO8 := Lib.hid ((OwnV.of (V := shV (insF F a d)) hO8 (fun k hk j hj => by first | exact ins_cat ha k hk j hj | (rw [← List.append_assoc]; exact ins_cat ha k hk j hj))).down (b' := w.heap.size) (by omega))
        have HB8 := Lib.hid (hbd.trans (below_le hB8 (by omega)))
        clear hO8 hgr8 hB8
        go_wp2
        refine bodyPost_ret (v := .tuple #[v8, .int .i64 0]) (res_tt rfl rfl rfl) rfl ⟨_, by rw [HC.out.1], by rw [HC.out.2]; exact HO8.out, HB8.out⟩
  have hsd : sidesB d (F 0) = true := by
    rcases Bool.eq_false_or_eq_true (sidesB d (F 0)) with h | h
    · exact h
    · exact absurd ⟨hn0, h⟩ hst
  have hc01 : F 0 0 = d 0 ∧ F 0 1 = d 1 := by
    unfold sidesB at hsd
    simp only [Bool.and_eq_true, beq_iff_eq] at hsd
    exact ⟨hsd.1.symm, hsd.2.symm⟩
  obtain ⟨hc0, hc1⟩ := hc01
  have e0 : R[0]? = some (.int .i8 (d 0)) := hc0 ▸ hcells0 0 hn0 0 (by omega)
  have e1 : R[1]? = some (.int .i8 (d 1)) := hc1 ▸ hcells0 0 hn0 1 (by omega)
  have hgt : (0 : Int) < (n : Int) := by omega
  clear hcells0 hsd hc0 hc1
  by_cases h66 : n = 6
  · have HC := Lib.hid (pu_limit h12 h3 hst h66)
    have H66 := Lib.hid h66
    clear h12 h3 h66 hst
    rw [HC.out.1, HC.out.2]
    go_enter Try.func6, Try.ntmps6
    go_wp2_with (first | (go_at_call 18; refine (HVT.out _ (HH.out.below (by repeat' (first | with_reducible exact Below.refl _ _ | with_reducible assumption | with_reducible refine Below.drew ?_ | with_reducible refine Below.drewN ?_ _ | with_reducible refine Below.alloc ?_ ?_ _ | with_reducible refine Below.setCell ?_ ?_ _ | with_reducible refine Below.setRow ?_ ?_ _ | with_reducible refine below_step (by assumption) ?_ ?_ | (show (_ : Nat) ≤ _; first | omega | (simp <;> omega)))) (Nat.le_refl _)).slV).mono ?_; rintro e w1 ⟨rfl, hb1⟩; have r1 := keep_rowA hb1; have f1 := keep_frA hb1; have s1 := hb1.size; (try simp only [World.size_alloc, World.size_setCell, setRow_size, World.size_drew, size_drewNm] at r1 f1 s1)) | (go_at_call 19; refine (HVS.out w.heap.size _ (by (go_simp <;> (intros; omega))) (by first | omega | (simp <;> omega))).mono ?_; rintro e w1 ⟨rfl, hb1⟩; have r1 := keep_rowA hb1; have f1 := keep_frA hb1; have s1 := hb1.size; (try simp only [World.size_alloc, World.size_setCell, setRow_size, World.size_drew, size_drewNm] at r1 f1 s1)) | (go_at_call 20; (with_reducible refine (HWI.out _).mono ?_); rintro e wz ⟨rfl, rfl⟩))
    go_quiet (fail)
    have he7 : (n : Int) = 6 := by have := H66.out; omega
    go_wp2
    refine bodyPost_ret (v := .tuple #[.slice (some ⟨_, 0, none⟩) 0 0, .int .i64 3]) (res_tt rfl rfl rfl) rfl ⟨_, rfl, .inr ⟨_, _, rfl, by first | omega | (simp <;> omega), by simp, by (go_simp <;> (intros; omega)), by omega, fun k hk => absurd hk (by omega)⟩, by repeat' (first | with_reducible exact Below.refl _ _ | with_reducible assumption | with_reducible refine Below.drew ?_ | with_reducible refine Below.drewN ?_ _ | with_reducible refine Below.alloc ?_ ?_ _ | with_reducible refine Below.setCell ?_ ?_ _ | with_reducible refine Below.setRow ?_ ?_ _ | with_reducible refine below_step (by assumption) ?_ ?_ | (show (_ : Nat) ≤ _; first | omega | (simp <;> omega)))⟩
  have HC := Lib.hid (pu_good h12 h3 hst h66)
  have he6 : ((n : Int) == 6) = false := by rw [hn6]; exact decide_eq_false h66
  have he7 : ¬ (n : Int) = 6 := by omega
  clear h12 h3 hst
  go_enter Try.func6, Try.ntmps6
  go_wp2_with (first | (go_at_call 18; refine (HVT.out _ (HH.out.below (by repeat' (first | with_reducible exact Below.refl _ _ | with_reducible assumption | with_reducible refine Below.drew ?_ | with_reducible refine Below.drewN ?_ _ | with_reducible refine Below.alloc ?_ ?_ _ | with_reducible refine Below.setCell ?_ ?_ _ | with_reducible refine Below.setRow ?_ ?_ _ | with_reducible refine below_step (by assumption) ?_ ?_ | (show (_ : Nat) ≤ _; first | omega | (simp <;> omega)))) (Nat.le_refl _)).slV).mono ?_; rintro e w1 ⟨rfl, hb1⟩; have r1 := keep_rowA hb1; have f1 := keep_frA hb1; have s1 := hb1.size; (try simp only [World.size_alloc, World.size_setCell, setRow_size, World.size_drew, size_drewNm] at r1 f1 s1)) | (go_at_call 19; refine (HVS.out w.heap.size _ (by (go_simp <;> (intros; omega))) (by first | omega | (simp <;> omega))).mono ?_; rintro e w1 ⟨rfl, hb1⟩; have r1 := keep_rowA hb1; have f1 := keep_frA hb1; have s1 := hb1.size; (try simp only [World.size_alloc, World.size_setCell, setRow_size, World.size_drew, size_drewNm] at r1 f1 s1)) | (go_at_call 20; (with_reducible refine (HWI.out _).mono ?_); rintro e wz ⟨rfl, rfl⟩))
  go_quiet (fail)
  go_wp2
  refine wp_world (fun wd hwd => ?_)
  have hbd : Below w.heap.size w wd := by rw [hwd]; repeat' (first | with_reducible exact Below.refl _ _ | with_reducible assumption | with_reducible refine Below.drew ?_ | with_reducible refine Below.drewN ?_ _ | with_reducible refine Below.alloc ?_ ?_ _ | with_reducible refine Below.setCell ?_ ?_ _ | with_reducible refine Below.setRow ?_ ?_ _ | with_reducible refine below_step (by assumption) ?_ ?_ | (show (_ : Nat) ≤ _; first | omega | (simp <;> omega)))
  have hNd : rowOf wd w.heap.size = kc sk 266 d := by rw [hwd]; (go_simp <;> (intros; omega))
  have hGd : rowOf wd g = R := by rw [hwd]; (go_simp <;> (intros; omega))
  have hsd : w.heap.size + 1 ≤ wd.heap.size := by rw [hwd]; first | omega | (simp <;> omega)
  clear hwd
  have hBd : Below wd.heap.size wd wd := Below.refl _ _
  have hBwd : Below wd.heap.size wd wd.drew := Below.drew hBd
  (refine wp_region_held (S := fun w' => rowOf w' (w.heap.size) = kc sk 266 d ∧ rowOf w' (g) = R) (by kernel_rfl) ?_); (simp only [World.drew_eq]); (refine wpAnyH_take (i := 5) rfl (by kernel_rfl) (by kernel_rfl) (by kernel_rfl) (fun _ _ _ h => h) (yieldsIf_load (v := .agg (kc sk 266 d)) rfl rfl rfl (fun w ⟨h0, h1⟩ => by go_simp)) ⟨by go_simp, by go_simp⟩ ?_); (try simp only [Act.put, Act.eval, List.getElem_toArray, List.getElem_cons_zero, List.getElem_cons_succ, List.setIfInBounds_toArray, List.set_cons_zero, List.set_cons_succ, Array.getD_eq_getD_getElem?, List.getElem?_toArray, List.getElem?_cons_zero, List.getElem?_cons_succ, Option.getD_some]); (refine wpAnyH_take (i := 1) rfl (by kernel_rfl) (by kernel_rfl) (by kernel_rfl) (fun _ _ _ h => h) (yieldsIf_move rfl rfl) ⟨by go_simp, by go_simp⟩ ?_); (try simp only [Act.put, Act.eval, List.getElem_toArray, List.getElem_cons_zero, List.getElem_cons_succ, List.setIfInBounds_toArray, List.set_cons_zero, List.set_cons_succ, Array.getD_eq_getD_getElem?, List.getElem?_toArray, List.getElem?_cons_zero, List.getElem?_cons_succ, Option.getD_some]); (refine wpAnyH_take (i := 2) rfl (by kernel_rfl) (by kernel_rfl) (by kernel_rfl) (fun _ _ _ h => h) (yieldsIf_move rfl rfl) ⟨by go_simp, by go_simp⟩ ?_); (try simp only [Act.put, Act.eval, List.getElem_toArray, List.getElem_cons_zero, List.getElem_cons_succ, List.setIfInBounds_toArray, List.set_cons_zero, List.set_cons_succ, Array.getD_eq_getD_getElem?, List.getElem?_toArray, List.getElem?_cons_zero, List.getElem?_cons_succ, Option.getD_some]); (refine wpAnyH_take (i := 3) (v := .slice (some ⟨g, 0, none⟩) a n) rfl (by kernel_rfl) (by kernel_rfl) (by kernel_rfl) (fun _ _ _ h => h) (.inl ⟨by first | (simp [Region.wanted]; done) | rfl | simp [Region.wanted, yielded], fun w _ => by unfold execOp; go_simp⟩) ⟨by go_simp, by go_simp⟩ ?_); (try simp only [Act.put, Act.eval, List.getElem_toArray, List.getElem_cons_zero, List.getElem_cons_succ, List.setIfInBounds_toArray, List.set_cons_zero, List.set_cons_succ, Array.getD_eq_getD_getElem?, List.getElem?_toArray, List.getElem?_cons_zero, List.getElem?_cons_succ, Option.getD_some])
  refine wpAnyH_two (i := 0) (j := 6) (by kernel_rfl) rfl rfl rfl rfl ?h1 ?h2
  case h1 =>
    refine oper_hid (fun RR hRR => ?_)
    refine wp_buildSlice_none 35 rfl 39 i0 Try.underlying35 HI.out.1 (fun w1 hqw1 => ?_)
    have hBw1 : Below wd.heap.size wd w1 := by rw [hqw1]; exact Below.alloc hBwd hBwd.size _
    have hsw1 : w1.heap.size = wd.heap.size + 1 := by rw [hqw1]; simp
    have hOw1 : w1.ownsRow wd.heap.size 39 266 (.slice (some ⟨wd.heap.size, 0, none⟩) 0 0) 0 [] := by rw [hqw1]; exact owns_down (owns_emptyW _ _ _) hBwd.size
    have hNw1 : rowOf w1 w.heap.size = kc sk 266 d := (keep_row hBw1 (by omega)).trans hNd
    have hGw1 : rowOf w1 g = R := (keep_row hBw1 (by omega)).trans hGd
    clear hqw1
    refine hRR _ _ ⟨⟨hNw1, hGw1⟩, ?_⟩
    clear hRR RR
    try simp only [Act.put, Act.eval, List.getElem_toArray, List.getElem_cons_zero, List.getElem_cons_succ, List.setIfInBounds_toArray, List.set_cons_zero, List.set_cons_succ, Array.getD_eq_getD_getElem?, List.getElem?_toArray, List.getElem?_cons_zero, List.getElem?_cons_succ, Option.getD_some]
    refine wpAnyH_two (i := 4) (j := 6) (by kernel_rfl) rfl rfl rfl rfl ?h3 ?h4
    case h3 =>
      refine oper_hid (fun RR hRR => ?_)
      refine wp_append_own _ _ 35 rfl wd.heap.size 39 i0 z0 266 522 Try.underlying35 HI.out.1 HI.out.2.1 HI.out.2.2.1 HI.out.2.2.2.1 HI.out.2.2.2.2 (by decide) _ 0 [] rfl hOw1 ⟨g, 0, none⟩ a n (shL F a) rfl (shL_len F a) (HNW.out _ hGw1) shL_one (by unfold maxLen; omega) (by omega) hBw1.size ?_
      intro v4 w2 hOw2 hgrw2
      rw [Nat.zero_add, List.nil_append] at hOw2
      have hBw2 : Below wd.heap.size wd w2 := below_grown hBw1 hgrw2 (fun k hk => (hOw1.lt k hk).1) hBw1.size
      have hsw2 := hgrw2.size
      have hNw2 : rowOf w2 w.heap.size = kc sk 266 d := (keep_row hBw2 (by omega)).trans hNd
      have hGw2 : rowOf w2 g = R := (keep_row hBw2 (by omega)).trans hGd
      clear hgrw2
      refine hRR _ _ ⟨⟨hNw2, hGw2⟩, ?_⟩
      clear hRR RR
      try simp only [Act.put, Act.eval, List.getElem_toArray, List.getElem_cons_zero, List.getElem_cons_succ, List.setIfInBounds_toArray, List.set_cons_zero, List.set_cons_succ, Array.getD_eq_getD_getElem?, List.getElem?_toArray, List.getElem?_cons_zero, List.getElem?_cons_succ, Option.getD_some]
      refine wpAnyH_one (i := 6) (by kernel_rfl) rfl rfl ?_
      refine oper_hid (fun RR hRR => ?_)
      refine wp_buildSlice_oneW 35 _ rfl 39 i0 z0 266 Try.underlying35 HI.out.1 HI.out.2.1 HI.out.2.2.1 (by decide) (by decide) (kc sk 266 d) (kc_size _ _ _) rfl (fun w3 hqw3 => ?_)
      have hBw3 : Below wd.heap.size wd w3 := by rw [hqw3]; exact Below.alloc hBw2 hBw2.size _
      have hsw3 : w3.heap.size = w2.heap.size + 1 := by rw [hqw3]; simp
      have hVw3 : w3.heap[w2.heap.size]? = some (.cells (kc sk 266 d) 39 (0, 0)) := by rw [hqw3]; exact heap_alloc_new _ _
      have hOw3 : w3.ownsRow wd.heap.size 39 266 v4 a (shL F a) := by rw [hqw3]; exact hOw2.alloc _
      have hNw3 : rowOf w3 w.heap.size = kc sk 266 d := (keep_row hBw3 (by omega)).trans hNd
      have hGw3 : rowOf w3 g = R := (keep_row hBw3 (by omega)).trans hGd
      clear hqw3
      refine hRR _ _ ⟨⟨hNw3, hGw3⟩, ?_⟩
      clear hRR RR
      try simp only [Act.put, Act.eval, List.getElem_toArray, List.getElem_cons_zero, List.getElem_cons_succ, List.setIfInBounds_toArray, List.set_cons_zero, List.set_cons_succ, Array.getD_eq_getD_getElem?, List.getElem?_toArray, List.getElem?_cons_zero, List.getElem?_cons_succ, Option.getD_some]
      refine wpAnyH_one (i := 7) (by kernel_rfl) rfl rfl ?_
      refine oper_hid (fun RR hRR => ?_)
      refine wp_append_own _ _ 35 rfl wd.heap.size 39 i0 z0 266 522 Try.underlying35 HI.out.1 HI.out.2.1 HI.out.2.2.1 HI.out.2.2.2.1 HI.out.2.2.2.2 (by decide) v4 a (shL F a) rfl hOw3 ⟨w2.heap.size, 0, none⟩ 1 1 (kc sk 266 d).toList rfl (by rw [Array.length_toList, kc_size]) (kc_cells (show rowOf w3 w2.heap.size = kc sk 266 d by simp [rowOf, hVw3, objRow])) (kc_ones d) (by unfold maxLen; omega) (by omega) hBw3.size ?_
      intro v7 w4 hOw4 hgrw4
      have hBw4 : Below wd.heap.size wd w4 := below_grown hBw3 hgrw4 (fun k hk => (hOw3.lt k hk).1) hBw3.size
      have hsw4 := hgrw4.size
      have hNw4 : rowOf w4 w.heap.size = kc sk 266 d := (keep_row hBw4 (by omega)).trans hNd
      have hGw4 : rowOf w4 g = R := (keep_row hBw4 (by omega)).trans hGd
      clear hgrw4
      refine hRR _ _ ⟨⟨hNw4, hGw4⟩, ?_⟩
      clear hRR RR
      try simp only [Act.put, Act.eval, List.getElem_toArray, List.getElem_cons_zero, List.getElem_cons_succ, List.setIfInBounds_toArray, List.set_cons_zero, List.set_cons_succ, Array.getD_eq_getD_getElem?, List.getElem?_toArray, List.getElem?_cons_zero, List.getElem?_cons_succ, Option.getD_some]
      refine wpAnyH_take (i := 8) rfl (by kernel_rfl) (by kernel_rfl) (by kernel_rfl) (fun _ _ _ h => h) (yieldsIf_assign rfl rfl) ⟨hNw4, hGw4⟩ ?_
      try simp only [Act.put, Act.eval, List.getElem_toArray, List.getElem_cons_zero, List.getElem_cons_succ, List.setIfInBounds_toArray, List.set_cons_zero, List.set_cons_succ, Array.getD_eq_getD_getElem?, List.getElem?_toArray, List.getElem?_cons_zero, List.getElem?_cons_succ, Option.getD_some]
      refine wpAnyH_done (by kernel_rfl) ?_ _
      obtain ⟨b7, c7, rfl⟩ : ∃ b7 c7, v7 = .slice b7 (a + 1) c7 := by
        rcases hOw4.2 with ⟨rfl, h0⟩ | ⟨g7, cap7, cur7, rfl, -⟩
        · omega
        · exact ⟨_, _, rfl⟩
      by_cases han : a = n
      · subst han
        go_wp2_with (at_builtin; refine wpList_append_own _ rfl _ _ 35 rfl wd.heap.size 39 i0 z0 266 522 Try.underlying35 HI.out.1 HI.out.2.1 HI.out.2.2.1 HI.out.2.2.2.1 HI.out.2.2.2.2 (by decide) _ (a + 1) _ rfl hOw4 ⟨g, 0, none⟩ 0 0 [] rfl rfl (fun j u hj => by cases hj) (fun u hu => by cases hu) (by unfold maxLen; omega) (by omega) hBw4.size ?_)
        intro v8 w8 hO8 hgr8 _
        have hB8 : Below wd.heap.size wd w8 := below_grown hBw4 hgr8 (fun k hk => (hOw4.lt k hk).1) hBw4.size
        try simp only [List.append_nil, Nat.add_zero] at hO8
        have HO8 := Lib.hid ((OwnV.of (V := shV (insF F a d)) hO8 (fun k hk j hj => ins_end k hk j hj)).down (b' := w.heap.size) (by omega))
        have HB8 := Lib.hid (hbd.trans (below_le hB8 (by omega)))
        clear hO8 hgr8 hB8
        go_wp2
        refine bodyPost_ret (v := .tuple #[v8, .int .i64 0]) (res_tt rfl rfl rfl) rfl ⟨_, by rw [HC.out.1], by rw [HC.out.2]; exact HO8.out, HB8.out⟩
      · have han2 : ¬ n = a := fun e => han e.symm
        have han3 : (a : Int) ≤ (n : Int) := by omega
        go_wp2_with (at_builtin; refine wpList_append_own _ rfl _ _ 35 rfl wd.heap.size 39 i0 z0 266 522 Try.underlying35 HI.out.1 HI.out.2.1 HI.out.2.2.1 HI.out.2.2.2.1 HI.out.2.2.2.2 (by decide) _ (a + 1) _ rfl hOw4 ⟨g, a * 266, none⟩ (n - a) (n - a) ((shL F n).drop (a * 266)) rfl (by rw [List.length_drop, shL_len]; omega) (HND.out _ hGw4) HONE.out (by unfold maxLen; omega) (by omega) hBw4.size ?_)
        intro v8 w8 hO8 hgr8 _
        have hB8 : Below wd.heap.size wd w8 := below_grown hBw4 hgr8 (fun k hk => (hOw4.lt k hk).1) hBw4.size
        try rw [show a + 1 + (n - a) = n + 1 by omega] at hO8
        have HO8 := Lib.hid ((OwnV.of (V := shV (insF F a d)) hO8 (fun k hk j hj => by first | exact ins_cat ha k hk j hj | (rw [← List.append_assoc]; exact ins_cat ha k hk j hj))).down (b' := w.heap.size) (by omega))
        have HB8 := Lib.hid (hbd.trans (below_le hB8 (by omega)))
        clear hO8 hgr8 hB8
        go_wp2
        refine bodyPost_ret (v := .tuple #[v8, .int .i64 0]) (res_tt rfl rfl rfl) rfl ⟨_, by rw [HC.out.1], by rw [HC.out.2]; exact HO8.out, HB8.out⟩
    case h4 =>
      refine oper_hid (fun RR hRR => ?_)
      refine wp_buildSlice_oneW 35 _ rfl 39 i0 z0 266 Try.underlying35 HI.out.1 HI.out.2.1 HI.out.2.2.1 (by decide) (by decide) (kc sk 266 d) (kc_size _ _ _) rfl (fun w2 hqw2 => ?_)
      have hBw2 : Below wd.heap.size wd w2 := by rw [hqw2]; exact Below.alloc hBw1 hBw1.size _
      have hsw2 : w2.heap.size = w1.heap.size + 1 := by rw [hqw2]; simp
      have hVw2 : w2.heap[w1.heap.size]? = some (.cells (kc sk 266 d) 39 (0, 0)) := by rw [hqw2]; exact heap_alloc_new _ _
      have hOw2 : w2.ownsRow wd.heap.size 39 266 (.slice (some ⟨wd.heap.size, 0, none⟩) 0 0) 0 [] := by rw [hqw2]; exact hOw1.alloc _
      have hNw2 : rowOf w2 w.heap.size = kc sk 266 d := (keep_row hBw2 (by omega)).trans hNd
      have hGw2 : rowOf w2 g = R := (keep_row hBw2 (by omega)).trans hGd
      clear hqw2
      refine hRR _ _ ⟨⟨hNw2, hGw2⟩, ?_⟩
      clear hRR RR
      try simp only [Act.put, Act.eval, List.getElem_toArray, List.getElem_cons_zero, List.getElem_cons_succ, List.setIfInBounds_toArray, List.set_cons_zero, List.set_cons_succ, Array.getD_eq_getD_getElem?, List.getElem?_toArray, List.getElem?_cons_zero, List.getElem?_cons_succ, Option.getD_some]
      refine wpAnyH_one (i := 4) (by kernel_rfl) rfl rfl ?_
      refine oper_hid (fun RR hRR => ?_)
      refine wp_append_own _ _ 35 rfl wd.heap.size 39 i0 z0 266 522 Try.underlying35 HI.out.1 HI.out.2.1 HI.out.2.2.1 HI.out.2.2.2.1 HI.out.2.2.2.2 (by decide) _ 0 [] rfl hOw2 ⟨g, 0, none⟩ a n (shL F a) rfl (shL_len F a) (HNW.out _ hGw2) shL_one (by unfold maxLen; omega) (by omega) hBw2.size ?_
      intro v4 w3 hOw3 hgrw3
      rw [Nat.zero_add, List.nil_append] at hOw3
      have hBw3 : Below wd.heap.size wd w3 := below_grown hBw2 hgrw3 (fun k hk => (hOw2.lt k hk).1) hBw2.size
      have hsw3 := hgrw3.size
      have hVw3 : w3.heap[w1.heap.size]? = some (.cells (kc sk 266 d) 39 (0, 0)) := (hgrw3.block w1.heap.size (by omega) (fun e => absurd (Option.some.inj (show some (w1.heap.size) = some (wd.heap.size) from e)) (by omega))).trans hVw2
      have hNw3 : rowOf w3 w.heap.size = kc sk 266 d := (keep_row hBw3 (by omega)).trans hNd
      have hGw3 : rowOf w3 g = R := (keep_row hBw3 (by omega)).trans hGd
      clear hgrw3
      refine hRR _ _ ⟨⟨hNw3, hGw3⟩, ?_⟩
      clear hRR RR
      try simp only [Act.put, Act.eval, List.getElem_toArray, List.getElem_cons_zero, List.getElem_cons_succ, List.setIfInBounds_toArray, List.set_cons_zero, List.set_cons_succ, Array.getD_eq_getD_getElem?, List.getElem?_toArray, List.getElem?_cons_zero, List.getElem?_cons_succ, Option.getD_some]
      refine wpAnyH_one (i := 7) (by kernel_rfl) rfl rfl ?_
      refine oper_hid (fun RR hRR => ?_)
      refine wp_append_own _ _ 35 rfl wd.heap.size 39 i0 z0 266 522 Try.underlying35 HI.out.1 HI.out.2.1 HI.out.2.2.1 HI.out.2.2.2.1 HI.out.2.2.2.2 (by decide) v4 a (shL F a) rfl hOw3 ⟨w1.heap.size, 0, none⟩ 1 1 (kc sk 266 d).toList rfl (by rw [Array.length_toList, kc_size]) (kc_cells (show rowOf w3 w1.heap.size = kc sk 266 d by simp [rowOf, hVw3, objRow])) (kc_ones d) (by unfold maxLen; omega) (by omega) hBw3.size ?_
      intro v7 w4 hOw4 hgrw4
      have hBw4 : Below wd.heap.size wd w4 := below_grown hBw3 hgrw4 (fun k hk => (hOw3.lt k hk).1) hBw3.size
      have hsw4 := hgrw4.size
      have hNw4 : rowOf w4 w.heap.size = kc sk 266 d := (keep_row hBw4 (by omega)).trans hNd
      have hGw4 : rowOf w4 g = R := (keep_row hBw4 (by omega)).trans hGd
      clear hgrw4
      refine hRR _ _ ⟨⟨hNw4, hGw4⟩, ?_⟩
      clear hRR RR
      try simp only [Act.put, Act.eval, List.getElem_toArray, List.getElem_cons_zero, List.getElem_cons_succ, List.setIfInBounds_toArray, List.set_cons_zero, List.set_cons_succ, Array.getD_eq_getD_getElem?, List.getElem?_toArray, List.getElem?_cons_zero, List.getElem?_cons_succ, Option.getD_some]
      refine wpAnyH_take (i := 8) rfl (by kernel_rfl) (by kernel_rfl) (by kernel_rfl) (fun _ _ _ h => h) (yieldsIf_assign rfl rfl) ⟨hNw4, hGw4⟩ ?_
      try simp only [Act.put, Act.eval, List.getElem_toArray, List.getElem_cons_zero, List.getElem_cons_succ, List.setIfInBounds_toArray, List.set_cons_zero, List.set_cons_succ, Array.getD_eq_getD_getElem?, List.getElem?_toArray, List.getElem?_cons_zero, List.getElem?_cons_succ, Option.getD_some]
      refine wpAnyH_done (by kernel_rfl) ?_ _
      obtain ⟨b7, c7, rfl⟩ : ∃ b7 c7, v7 = .slice b7 (a + 1) c7 := by
        rcases hOw4.2 with ⟨rfl, h0⟩ | ⟨g7, cap7, cur7, rfl, -⟩
        · omega
        · exact ⟨_, _, rfl⟩
      by_cases han : a = n
      · subst han
        go_wp2_with (at_builtin; refine wpList_append_own _ rfl _ _ 35 rfl wd.heap.size 39 i0 z0 266 522 Try.underlying35 HI.out.1 HI.out.2.1 HI.out.2.2.1 HI.out.2.2.2.1 HI.out.2.2.2.2 (by decide) _ (a + 1) _ rfl hOw4 ⟨g, 0, none⟩ 0 0 [] rfl rfl (fun j u hj => by cases hj) (fun u hu => by cases hu) (by unfold maxLen; omega) (by omega) hBw4.size ?_)
        intro v8 w8 hO8 hgr8 _
        have hB8 : Below wd.heap.size wd w8 := below_grown hBw4 hgr8 (fun k hk => (hOw4.lt k hk).1) hBw4.size
        try simp only [List.append_nil, Nat.add_zero] at hO8
        have HO8 := Lib.hid ((OwnV.of (V := shV (insF F a d)) hO8 (fun k hk j hj => ins_end k hk j hj)).down (b' := w.heap.size) (by omega))
        have HB8 := Lib.hid (hbd.trans (below_le hB8 (by omega)))
        clear hO8 hgr8 hB8
        go_wp2
        refine bodyPost_ret (v := .tuple #[v8, .int .i64 0]) (res_tt rfl rfl rfl) rfl ⟨_, by rw [HC.out.1], by rw [HC.out.2]; exact HO8.out, HB8.out⟩
      · have han2 : ¬ n = a := fun e => han e.symm
        have han3 : (a : Int) ≤ (n : Int) := by omega
        go_wp2_with (at_builtin; refine wpList_append_own _ rfl _ _ 35 rfl wd.heap.size 39 i0 z0 266 522 Try.underlying35 HI.out.1 HI.out.2.1 HI.out.2.2.1 HI.out.2.2.2.1 HI.out.2.2.2.2 (by decide) _ (a + 1) _ rfl hOw4 ⟨g, a * 266, none⟩ (n - a) (n - a) ((shL F n).drop (a * 266)) rfl (by rw [List.length_drop, shL_len]; omega) (HND.out _ hGw4) HONE.out (by unfold maxLen; omega) (by omega) hBw4.size ?_)
        intro v8 w8 hO8 hgr8 _
        have hB8 : Below wd.heap.size wd w8 := below_grown hBw4 hgr8 (fun k hk => (hOw4.lt k hk).1) hBw4.size
        try rw [show a + 1 + (n - a) = n + 1 by omega] at hO8
        have HO8 := Lib.hid ((OwnV.of (V := shV (insF F a d)) hO8 (fun k hk j hj => by first | exact ins_cat ha k hk j hj | (rw [← List.append_assoc]; exact ins_cat ha k hk j hj))).down (b' := w.heap.size) (by omega))
        have HB8 := Lib.hid (hbd.trans (below_le hB8 (by omega)))
        clear hO8 hgr8 hB8
        go_wp2
        refine bodyPost_ret (v := .tuple #[v8, .int .i64 0]) (res_tt rfl rfl rfl) rfl ⟨_, by rw [HC.out.1], by rw [HC.out.2]; exact HO8.out, HB8.out⟩
  case h2 =>
    refine oper_hid (fun RR hRR => ?_)
    refine wp_buildSlice_oneW 35 _ rfl 39 i0 z0 266 Try.underlying35 HI.out.1 HI.out.2.1 HI.out.2.2.1 (by decide) (by decide) (kc sk 266 d) (kc_size _ _ _) rfl (fun w1 hqw1 => ?_)
    have hBw1 : Below wd.heap.size wd w1 := by rw [hqw1]; exact Below.alloc hBwd hBwd.size _
    have hsw1 : w1.heap.size = wd.heap.size + 1 := by rw [hqw1]; simp
    have hVw1 : w1.heap[wd.heap.size]? = some (.cells (kc sk 266 d) 39 (0, 0)) := by rw [hqw1]; exact heap_alloc_new _ _
    have hNw1 : rowOf w1 w.heap.size = kc sk 266 d := (keep_row hBw1 (by omega)).trans hNd
    have hGw1 : rowOf w1 g = R := (keep_row hBw1 (by omega)).trans hGd
    clear hqw1
    refine hRR _ _ ⟨⟨hNw1, hGw1⟩, ?_⟩
    clear hRR RR
    try simp only [Act.put, Act.eval, List.getElem_toArray, List.getElem_cons_zero, List.getElem_cons_succ, List.setIfInBounds_toArray, List.set_cons_zero, List.set_cons_succ, Array.getD_eq_getD_getElem?, List.getElem?_toArray, List.getElem?_cons_zero, List.getElem?_cons_succ, Option.getD_some]
    refine wpAnyH_one (i := 0) (by kernel_rfl) rfl rfl ?_
    refine oper_hid (fun RR hRR => ?_)
    refine wp_buildSlice_none 35 rfl 39 i0 Try.underlying35 HI.out.1 (fun w2 hqw2 => ?_)
    have hBw2 : Below wd.heap.size wd w2 := by rw [hqw2]; exact Below.alloc hBw1 hBw1.size _
    have hsw2 : w2.heap.size = w1.heap.size + 1 := by rw [hqw2]; simp
    have hOw2 : w2.ownsRow wd.heap.size 39 266 (.slice (some ⟨w1.heap.size, 0, none⟩) 0 0) 0 [] := by rw [hqw2]; exact owns_down (owns_emptyW _ _ _) hBw1.size
    have hVw2 : w2.heap[wd.heap.size]? = some (.cells (kc sk 266 d) 39 (0, 0)) := by rw [hqw2]; exact (heap_alloc_old _ _ (by omega)).trans hVw1
    have hNw2 : rowOf w2 w.heap.size = kc sk 266 d := (keep_row hBw2 (by omega)).trans hNd
    have hGw2 : rowOf w2 g = R := (keep_row hBw2 (by omega)).trans hGd
    clear hqw2
    refine hRR _ _ ⟨⟨hNw2, hGw2⟩, ?_⟩
    clear hRR RR
    try simp only [Act.put, Act.eval, List.getElem_toArray, List.getElem_cons_zero, List.getElem_cons_succ, List.setIfInBounds_toArray, List.set_cons_zero, List.set_cons_succ, Array.getD_eq_getD_getElem?, List.getElem?_toArray, List.getElem?_cons_zero, List.getElem?_cons_succ, Option.getD_some]
    refine wpAnyH_one (i := 4) (by kernel_rfl) rfl rfl ?_
    refine oper_hid (fun RR hRR => ?_)
    refine wp_append_own _ _ 35 rfl wd.heap.size 39 i0 z0 266 522 Try.underlying35 HI.out.1 HI.out.2.1 HI.out.2.2.1 HI.out.2.2.2.1 HI.out.2.2.2.2 (by decide) _ 0 [] rfl hOw2 ⟨g, 0, none⟩ a n (shL F a) rfl (shL_len F a) (HNW.out _ hGw2) shL_one (by unfold maxLen; omega) (by omega) hBw2.size ?_
    intro v4 w3 hOw3 hgrw3
    rw [Nat.zero_add, List.nil_append] at hOw3
    have hBw3 : Below wd.heap.size wd w3 := below_grown hBw2 hgrw3 (fun k hk => (hOw2.lt k hk).1) hBw2.size
    have hsw3 := hgrw3.size
    have hVw3 : w3.heap[wd.heap.size]? = some (.cells (kc sk 266 d) 39 (0, 0)) := (hgrw3.block wd.heap.size (by omega) (fun e => absurd (Option.some.inj (show some (wd.heap.size) = some (w1.heap.size) from e)) (by omega))).trans hVw2
    have hNw3 : rowOf w3 w.heap.size = kc sk 266 d := (keep_row hBw3 (by omega)).trans hNd
    have hGw3 : rowOf w3 g = R := (keep_row hBw3 (by omega)).trans hGd
    clear hgrw3
    refine hRR _ _ ⟨⟨hNw3, hGw3⟩, ?_⟩
    clear hRR RR
    try simp only [Act.put, Act.eval, List.getElem_toArray, List.getElem_cons_zero, List.getElem_cons_succ, List.setIfInBounds_toArray, List.set_cons_zero, List.set_cons_succ, Array.getD_eq_getD_getElem?, List.getElem?_toArray, List.getElem?_cons_zero, List.getElem?_cons_succ, Option.getD_some]
    refine wpAnyH_one (i := 7) (by kernel_rfl) rfl rfl ?_
    refine oper_hid (fun RR hRR => ?_)
    refine wp_append_own _ _ 35 rfl wd.heap.size 39 i0 z0 266 522 Try.underlying35 HI.out.1 HI.out.2.1 HI.out.2.2.1 HI.out.2.2.2.1 HI.out.2.2.2.2 (by decide) v4 a (shL F a) rfl hOw3 ⟨wd.heap.size, 0, none⟩ 1 1 (kc sk 266 d).toList rfl (by rw [Array.length_toList, kc_size]) (kc_cells (show rowOf w3 wd.heap.size = kc sk 266 d by simp [rowOf, hVw3, objRow])) (kc_ones d) (by unfold maxLen; omega) (by omega) hBw3.size ?_
    intro v7 w4 hOw4 hgrw4
    have hBw4 : Below wd.heap.size wd w4 := below_grown hBw3 hgrw4 (fun k hk => (hOw3.lt k hk).1) hBw3.size
    have hsw4 := hgrw4.size
    have hNw4 : rowOf w4 w.heap.size = kc sk 266 d := (keep_row hBw4 (by omega)).trans hNd
    have hGw4 : rowOf w4 g = R := (keep_row hBw4 (by omega)).trans hGd
    clear hgrw4
    refine hRR _ _ ⟨⟨hNw4, hGw4⟩, ?_⟩
    clear hRR RR
    try simp only [Act.put, Act.eval, List.getElem_toArray, List.getElem_cons_zero, List.getElem_cons_succ, List.setIfInBounds_toArray, List.set_cons_zero, List.set_cons_succ, Array.getD_eq_getD_getElem?, List.getElem?_toArray, List.getElem?_cons_zero, List.getElem?_cons_succ, Option.getD_some]
    refine wpAnyH_take (i := 8) rfl (by kernel_rfl) (by kernel_rfl) (by kernel_rfl) (fun _ _ _ h => h) (yieldsIf_assign rfl rfl) ⟨hNw4, hGw4⟩ ?_
    try simp only [Act.put, Act.eval, List.getElem_toArray, List.getElem_cons_zero, List.getElem_cons_succ, List.setIfInBounds_toArray, List.set_cons_zero, List.set_cons_succ, Array.getD_eq_getD_getElem?, List.getElem?_toArray, List.getElem?_cons_zero, List.getElem?_cons_succ, Option.getD_some]
    refine wpAnyH_done (by kernel_rfl) ?_ _
    obtain ⟨b7, c7, rfl⟩ : ∃ b7 c7, v7 = .slice b7 (a + 1) c7 := by
      rcases hOw4.2 with ⟨rfl, h0⟩ | ⟨g7, cap7, cur7, rfl, -⟩
      · omega
      · exact ⟨_, _, rfl⟩
    by_cases han : a = n
    · subst han
      go_wp2_with (at_builtin; refine wpList_append_own _ rfl _ _ 35 rfl wd.heap.size 39 i0 z0 266 522 Try.underlying35 HI.out.1 HI.out.2.1 HI.out.2.2.1 HI.out.2.2.2.1 HI.out.2.2.2.2 (by decide) _ (a + 1) _ rfl hOw4 ⟨g, 0, none⟩ 0 0 [] rfl rfl (fun j u hj => by cases hj) (fun u hu => by cases hu) (by unfold maxLen; omega) (by omega) hBw4.size ?_)
      intro v8 w8 hO8 hgr8 _
      have hB8 : Below wd.heap.size wd w8 := below_grown hBw4 hgr8 (fun k hk => (hOw4.lt k hk).1) hBw4.size
      try simp only [List.append_nil, Nat.add_zero] at hO8
      have HO8 := Lib.hid ((OwnV.of (V := shV (insF F a d)) hO8 (fun k hk j hj => ins_end k hk j hj)).down (b' := w.heap.size) (by omega))
      have HB8 := Lib.hid (hbd.trans (below_le hB8 (by omega)))
      clear hO8 hgr8 hB8
      go_wp2
      refine bodyPost_ret (v := .tuple #[v8, .int .i64 0]) (res_tt rfl rfl rfl) rfl ⟨_, by rw [HC.out.1], by rw [HC.out.2]; exact HO8.out, HB8.out⟩
    · have han2 : ¬ n = a := fun e => han e.symm
      have han3 : (a : Int) ≤ (n : Int) := by omega
      go_wp2_with (at_builtin; refine wpList_append_own _ rfl _ _ 35 rfl wd.heap.size 39 i0 z0 266 522 Try.underlying35 HI.out.1 HI.out.2.1 HI.out.2.2.1 HI.out.2.2.2.1 HI.out.2.2.2.2 (by decide) _ (a + 1) _ rfl hOw4 ⟨g, a * 266, none⟩ (n - a) (n - a) ((shL F n).drop (a * 266)) rfl (by rw [List.length_drop, shL_len]; omega) (HND.out _ hGw4) HONE.out (by unfold maxLen; omega) (by omega) hBw4.size ?_)
      intro v8 w8 hO8 hgr8 _
      have hB8 : Below wd.heap.size wd w8 := below_grown hBw4 hgr8 (fun k hk => (hOw4.lt k hk).1) hBw4.size
      try rw [show a + 1 + (n - a) = n + 1 by omega] at hO8
      have HO8 := Lib.hid ((OwnV.of (V := shV (insF F a d)) hO8 (fun k hk j hj => by first | exact ins_cat ha k hk j hj | (rw [← List.append_assoc]; exact ins_cat ha k hk j hj))).down (b' := w.heap.size) (by omega))
      have HB8 := Lib.hid (hbd.trans (below_le hB8 (by omega)))
      clear hO8 hgr8 hB8
      go_wp2
      refine bodyPost_ret (v := .tuple #[v8, .int .i64 0]) (res_tt rfl rfl rfl) rfl ⟨_, by rw [HC.out.1], by rw [HC.out.2]; exact HO8.out, HB8.out⟩
end Go.Proofs.Ytkdfkhjoijfcdaa
