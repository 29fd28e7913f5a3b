/- Two brushes share what they have: one side. Written by gen_mixb.py. -/
import Derived.Test.YtigiooollonmjaaMixBC
import Derived.RegionTactic
namespace Go.Proofs.Ytigiooollonmjaa
open Go.RowKit
set_option linter.unusedVariables false
set_option linter.unusedSimpArgs false
set_option maxRecDepth 100000
set_option maxHeartbeats 8000000 in
theorem iMixB_any (a b c wt sh d e f wu si : Int) (w : World) (hf : FitBrush a b c wt sh) (hg : FitBrush d e f wu si) :
    Calls Try.prog 17 #[.agg (brush a b c wt sh), .agg (brush d e f wu si)] w fun e' w' => e' = .returned (mixbV a b c wt sh d e f wu si) ∧ Below w.heap.size w w' := by
  have ⟨h1, h2, h3, h4, h5⟩ := hf
  have ⟨g1, g2, g3, g4, g5⟩ := hg
  cases ho : okBrush a b c wt sh
  case false =>
    rw [show mixbV a b c wt sh d e f wu si = .tuple #[.agg (brush 0 0 0 0 0), .agg (brush 0 0 0 0 0), .int .i64 1] by unfold mixbV; rw [if_neg (by simp [ho])]]
    go_enter Try.func17, Try.ntmps17
    go_wp2_with (first | (go_at_call 63; with_reducible refine (iValidBrush_any a b c wt sh _ hf).mono ?_; rintro e w1 ⟨rfl, hb1⟩; have r1 := keep_rowA hb1; have f1 := keep_frA hb1; have s1 := hb1.size; (try simp only [World.size_alloc, World.size_setCell, setRow_size, World.size_drew] at r1 f1 s1)) | (go_at_call 63; with_reducible refine (iValidBrush_any d e f wu si _ hg).mono ?_; rintro e w1 ⟨rfl, hb1⟩; have r1 := keep_rowA hb1; have f1 := keep_frA hb1; have s1 := hb1.size; (try simp only [World.size_alloc, World.size_setCell, setRow_size, World.size_drew] at r1 f1 s1)))
    refine bodyPost_ret (v := .tuple #[.agg (brush 0 0 0 0 0), .agg (brush 0 0 0 0 0), .int .i64 1]) (res_cct rfl rfl (by (go_simp <;> (intros; omega))) rfl (by (go_simp <;> (intros; omega))) rfl) rfl ⟨rfl, by repeat' (first | with_reducible exact Below.refl _ _ | with_reducible assumption | with_reducible refine Below.drew ?_ | with_reducible refine Below.drewN ?_ _ | with_reducible refine Below.alloc ?_ ?_ _ | with_reducible refine Below.setCell ?_ ?_ _ | with_reducible refine Below.setRow ?_ ?_ _ | with_reducible refine below_step (by assumption) ?_ ?_ | (show (_ : Nat) ≤ _; first | omega | (simp <;> omega)))⟩
  cases hp : okBrush d e f wu si
  case false =>
    rw [show mixbV a b c wt sh d e f wu si = .tuple #[.agg (brush 0 0 0 0 0), .agg (brush 0 0 0 0 0), .int .i64 1] by unfold mixbV; rw [if_neg (by simp [hp])]]
    go_enter Try.func17, Try.ntmps17
    go_wp2_with (first | (go_at_call 63; with_reducible refine (iValidBrush_any a b c wt sh _ hf).mono ?_; rintro e w1 ⟨rfl, hb1⟩; have r1 := keep_rowA hb1; have f1 := keep_frA hb1; have s1 := hb1.size; (try simp only [World.size_alloc, World.size_setCell, setRow_size, World.size_drew] at r1 f1 s1)) | (go_at_call 63; with_reducible refine (iValidBrush_any d e f wu si _ hg).mono ?_; rintro e w1 ⟨rfl, hb1⟩; have r1 := keep_rowA hb1; have f1 := keep_frA hb1; have s1 := hb1.size; (try simp only [World.size_alloc, World.size_setCell, setRow_size, World.size_drew] at r1 f1 s1)))
    refine bodyPost_ret (v := .tuple #[.agg (brush 0 0 0 0 0), .agg (brush 0 0 0 0 0), .int .i64 1]) (res_cct rfl rfl (by (go_simp <;> (intros; omega))) rfl (by (go_simp <;> (intros; omega))) rfl) rfl ⟨rfl, by repeat' (first | with_reducible exact Below.refl _ _ | with_reducible assumption | with_reducible refine Below.drew ?_ | with_reducible refine Below.drewN ?_ _ | with_reducible refine Below.alloc ?_ ?_ _ | with_reducible refine Below.setCell ?_ ?_ _ | with_reducible refine Below.setRow ?_ ?_ _ | with_reducible refine below_step (by assumption) ?_ ?_ | (show (_ : Nat) ≤ _; first | omega | (simp <;> omega)))⟩
  have ⟨o1, o2, o3, o4, o5, o6, o7, o8, o9, o10, o11⟩ := okBrush_in ho
  have ⟨p1, p2, p3, p4, p5, p6, p7, p8, p9, p10, p11⟩ := okBrush_in hp
  have u0 := up2_in (s := a + d) (by omega) (by omega)
  have v0 := dn2_in (s := a + d) (by omega) (by omega)
  have u1 := up2_in (s := b + e) (by omega) (by omega)
  have v1 := dn2_in (s := b + e) (by omega) (by omega)
  have u2 := up2_in (s := c + f) (by omega) (by omega)
  have v2 := dn2_in (s := c + f) (by omega) (by omega)
  have u3 := up2_in (s := wt + wu) (by omega) (by omega)
  have v3 := dn2_in (s := wt + wu) (by omega) (by omega)
  have hu : FitBrush (up2 (a + d)) (up2 (b + e)) (up2 (c + f)) (up2 (wt + wu)) sh := ⟨by omega, by omega, by omega, by omega, h5⟩
  have hv : FitBrush (dn2 (a + d)) (dn2 (b + e)) (dn2 (c + f)) (dn2 (wt + wu)) si := ⟨by omega, by omega, by omega, by omega, g5⟩
  have eu0 := up2_wrap (s := a + d) (by omega) (by omega)
  have ev0 := dn2_wrap (s := a + d) (by omega) (by omega)
  have es0 := up_dn (s := a + d) (by omega)
  have eu1 := up2_wrap (s := b + e) (by omega) (by omega)
  have ev1 := dn2_wrap (s := b + e) (by omega) (by omega)
  have es1 := up_dn (s := b + e) (by omega)
  have eu2 := up2_wrap (s := c + f) (by omega) (by omega)
  have ev2 := dn2_wrap (s := c + f) (by omega) (by omega)
  have es2 := up_dn (s := c + f) (by omega)
  have eu3 := up2_wrap (s := wt + wu) (by omega) (by omega)
  have ev3 := dn2_wrap (s := wt + wu) (by omega) (by omega)
  have es3 := up_dn (s := wt + wu) (by omega)
  have E : mixbV a b c wt sh d e f wu si = if okBrush (up2 (a + d)) (up2 (b + e)) (up2 (c + f)) (up2 (wt + wu)) sh = true ∧ okBrush (dn2 (a + d)) (dn2 (b + e)) (dn2 (c + f)) (dn2 (wt + wu)) si = true then .tuple #[.agg (brush (up2 (a + d)) (up2 (b + e)) (up2 (c + f)) (up2 (wt + wu)) sh), .agg (brush (dn2 (a + d)) (dn2 (b + e)) (dn2 (c + f)) (dn2 (wt + wu)) si), .int .i64 0] else .tuple #[.agg (brush 0 0 0 0 0), .agg (brush 0 0 0 0 0), .int .i64 3] := by
    unfold mixbV; rw [if_pos ⟨ho, hp⟩]
  have HE := Lib.hid E
  clear E
  go_enter Try.func17, Try.ntmps17
  go_wp2_with (first | (go_at_call 63; with_reducible refine (iValidBrush_any a b c wt sh _ hf).mono ?_; rintro e w1 ⟨rfl, hb1⟩; have r1 := keep_rowA hb1; have f1 := keep_frA hb1; have s1 := hb1.size; (try simp only [World.size_alloc, World.size_setCell, setRow_size, World.size_drew] at r1 f1 s1)) | (go_at_call 63; with_reducible refine (iValidBrush_any d e f wu si _ hg).mono ?_; rintro e w1 ⟨rfl, hb1⟩; have r1 := keep_rowA hb1; have f1 := keep_frA hb1; have s1 := hb1.size; (try simp only [World.size_alloc, World.size_setCell, setRow_size, World.size_drew] at r1 f1 s1)))
  refine wp_loop_rounds 4 ?_; rw [rounds_succ]
  go_wp2
  go_still_tail 7, (by kernel_rfl)
  change wpList _ _ _ _ _ (World.drew _)
  go_wp2_with (first | (go_at_call 64; with_reducible refine (share0_any _ _ ?_ a b c wt sh d e f wu si ?_ ?_ _ ?_ ?_ ?_ ?_ ?_ ?_).mono ?_; (focus omega); (focus omega); (focus omega); (focus (go_simp <;> (intros; omega))); (focus (go_simp <;> (intros; omega))); (focus (go_simp <;> (intros; omega))); (focus (go_simp <;> (intros; omega))); (focus (first | omega | (simp <;> omega))); (focus (first | omega | (simp <;> omega))); rintro e w1 ⟨rfl, n0, rfl⟩) | (rw [rounds_succ]))
  go_still_tail 7, (by kernel_rfl)
  change wpList _ _ _ _ _ (World.drew _)
  go_wp2_with (first | (go_at_call 64; with_reducible refine (share1_any _ _ ?_ (up2 (a + d)) b c wt sh (dn2 (a + d)) e f wu si ?_ ?_ _ ?_ ?_ ?_ ?_ ?_ ?_).mono ?_; (focus omega); (focus omega); (focus omega); (focus (go_simp <;> (intros; omega))); (focus (go_simp <;> (intros; omega))); (focus (go_simp <;> (intros; omega))); (focus (go_simp <;> (intros; omega))); (focus (first | omega | (simp <;> omega))); (focus (first | omega | (simp <;> omega))); rintro e w1 ⟨rfl, n1, rfl⟩) | (rw [rounds_succ]))
  go_still_tail 7, (by kernel_rfl)
  change wpList _ _ _ _ _ (World.drew _)
  go_wp2_with (first | (go_at_call 64; with_reducible refine (share2_any _ _ ?_ (up2 (a + d)) (up2 (b + e)) c wt sh (dn2 (a + d)) (dn2 (b + e)) f wu si ?_ ?_ _ ?_ ?_ ?_ ?_ ?_ ?_).mono ?_; (focus omega); (focus omega); (focus omega); (focus (go_simp <;> (intros; omega))); (focus (go_simp <;> (intros; omega))); (focus (go_simp <;> (intros; omega))); (focus (go_simp <;> (intros; omega))); (focus (first | omega | (simp <;> omega))); (focus (first | omega | (simp <;> omega))); rintro e w1 ⟨rfl, n2, rfl⟩) | (rw [rounds_succ]) | (go_at_call 64; with_reducible refine (share3_any _ _ ?_ (up2 (a + d)) (up2 (b + e)) (up2 (c + f)) wt sh (dn2 (a + d)) (dn2 (b + e)) (dn2 (c + f)) wu si ?_ ?_ _ ?_ ?_ ?_ ?_ ?_ ?_).mono ?_; (focus omega); (focus omega); (focus omega); (focus (go_simp <;> (intros; omega))); (focus (go_simp <;> (intros; omega))); (focus (go_simp <;> (intros; omega))); (focus (go_simp <;> (intros; omega))); (focus (first | omega | (simp <;> omega))); (focus (first | omega | (simp <;> omega))); rintro e w1 ⟨rfl, n3, rfl⟩))
  generalize hw : World.setCell (World.setCell _ _ _) _ _ = W
  have HW := Lib.hid hw
  clear hw
  have hA : rowOf W w.heap.size = brush (up2 (a + d)) (up2 (b + e)) (up2 (c + f)) (up2 (wt + wu)) sh := by rw [← HW.out]; (go_simp <;> (intros; omega))
  have hB : rowOf W (w.heap.size + 1) = brush (dn2 (a + d)) (dn2 (b + e)) (dn2 (c + f)) (dn2 (wt + wu)) si := by rw [← HW.out]; (go_simp <;> (intros; omega))
  have hC : rowOf W (w.heap.size + 1 + 1) = brush 0 0 0 0 0 := by rw [← HW.out]; (go_simp <;> (intros; omega))
  have hD : rowOf W (w.heap.size + 1 + 1 + 1) = brush 0 0 0 0 0 := by rw [← HW.out]; (go_simp <;> (intros; omega))
  have hfC : frOf W (w.heap.size + 1 + 1) = (0, 0) := by rw [← HW.out]; (go_simp <;> (intros; omega))
  have hfD : frOf W (w.heap.size + 1 + 1 + 1) = (0, 0) := by rw [← HW.out]; (go_simp <;> (intros; omega))
  have hsz : w.heap.size + 4 ≤ W.heap.size := by rw [← HW.out]; first | omega | (simp <;> omega)
  have hu2 := fun w => iValidBrush_any (up2 (a + d)) (up2 (b + e)) (up2 (c + f)) (up2 (wt + wu)) sh w hu
  have hv2 := fun w => iValidBrush_any (dn2 (a + d)) (dn2 (b + e)) (dn2 (c + f)) (dn2 (wt + wu)) si w hv
  clear hf hg h1 h2 h3 h4 g1 g2 g3 g4 h5 g5 o1 o2 o3 o4 o5 o6 o7 o8 o9 o10 o11 p1 p2 p3 p4 p5 p6 p7 p8 p9 p10 p11 u0 u1 u2 u3 v0 v1 v2 v3 eu0 eu1 eu2 eu3 ev0 ev1 ev2 ev3 es0 es1 es2 es3 hu hv ho hp
  have hBW : Below w.heap.size w W := by rw [← HW.out]; repeat' (first | with_reducible exact Below.refl _ _ | with_reducible assumption | with_reducible refine Below.drew ?_ | with_reducible refine Below.drewN ?_ _ | with_reducible refine Below.alloc ?_ ?_ _ | with_reducible refine Below.setCell ?_ ?_ _ | with_reducible refine Below.setRow ?_ ?_ _ | with_reducible refine below_step (by assumption) ?_ ?_ | (show (_ : Nat) ≤ _; first | omega | (simp <;> omega)))
  clear HW
  cases hq : okBrush (up2 (a + d)) (up2 (b + e)) (up2 (c + f)) (up2 (wt + wu)) sh
  case false =>
    simp only [hq] at hu2
    have HU := Lib.hid hu2
    have HV := Lib.hid hv2
    have HQ := Lib.hid hq
    clear hu2 hv2 hq
    go_wp2_with (first | (go_at_call 63; with_reducible refine (HU.out _).mono ?_; rintro e w1 ⟨rfl, hb1⟩; have r1 := keep_rowA hb1; have f1 := keep_frA hb1; have s1 := hb1.size; (try simp only [World.size_alloc, World.size_setCell, setRow_size, World.size_drew] at r1 f1 s1)) | (go_at_call 63; with_reducible refine (HV.out _).mono ?_; rintro e w1 ⟨rfl, hb1⟩; have r1 := keep_rowA hb1; have f1 := keep_frA hb1; have s1 := hb1.size; (try simp only [World.size_alloc, World.size_setCell, setRow_size, World.size_drew] at r1 f1 s1)))
    refine bodyPost_ret (v := mixbV a b c wt sh d e f wu si) ?_ rfl ⟨rfl, by repeat' (first | with_reducible exact Below.refl _ _ | with_reducible assumption | with_reducible refine Below.drew ?_ | with_reducible refine Below.drewN ?_ _ | with_reducible refine Below.alloc ?_ ?_ _ | with_reducible refine Below.setCell ?_ ?_ _ | with_reducible refine Below.setRow ?_ ?_ _ | with_reducible refine below_step (by assumption) ?_ ?_ | (show (_ : Nat) ≤ _; first | omega | (simp <;> omega)))⟩
    rw [HE.out, if_neg (by simp [HQ.out])]
    exact res_cct rfl rfl (by (go_simp <;> (intros; omega))) rfl (by (go_simp <;> (intros; omega))) rfl
  cases hs : okBrush (dn2 (a + d)) (dn2 (b + e)) (dn2 (c + f)) (dn2 (wt + wu)) si
  case false =>
    simp only [hq] at hu2
    simp only [hs] at hv2
    have HU := Lib.hid hu2
    have HV := Lib.hid hv2
    have HQ := Lib.hid hq
    have HS := Lib.hid hs
    clear hu2 hv2 hq hs
    go_wp2_with (first | (go_at_call 63; with_reducible refine (HU.out _).mono ?_; rintro e w1 ⟨rfl, hb1⟩; have r1 := keep_rowA hb1; have f1 := keep_frA hb1; have s1 := hb1.size; (try simp only [World.size_alloc, World.size_setCell, setRow_size, World.size_drew] at r1 f1 s1)) | (go_at_call 63; with_reducible refine (HV.out _).mono ?_; rintro e w1 ⟨rfl, hb1⟩; have r1 := keep_rowA hb1; have f1 := keep_frA hb1; have s1 := hb1.size; (try simp only [World.size_alloc, World.size_setCell, setRow_size, World.size_drew] at r1 f1 s1)))
    refine bodyPost_ret (v := mixbV a b c wt sh d e f wu si) ?_ rfl ⟨rfl, by repeat' (first | with_reducible exact Below.refl _ _ | with_reducible assumption | with_reducible refine Below.drew ?_ | with_reducible refine Below.drewN ?_ _ | with_reducible refine Below.alloc ?_ ?_ _ | with_reducible refine Below.setCell ?_ ?_ _ | with_reducible refine Below.setRow ?_ ?_ _ | with_reducible refine below_step (by assumption) ?_ ?_ | (show (_ : Nat) ≤ _; first | omega | (simp <;> omega)))⟩
    rw [HE.out, if_neg (by simp [HS.out])]
    exact res_cct rfl rfl (by (go_simp <;> (intros; omega))) rfl (by (go_simp <;> (intros; omega))) rfl
  case true =>
    simp only [hq] at hu2
    simp only [hs] at hv2
    have HU := Lib.hid hu2
    have HV := Lib.hid hv2
    have HQ := Lib.hid hq
    have HS := Lib.hid hs
    clear hu2 hv2 hq hs
    go_wp2_with (first | (go_at_call 63; with_reducible refine (HU.out _).mono ?_; rintro e w1 ⟨rfl, hb1⟩; have r1 := keep_rowA hb1; have f1 := keep_frA hb1; have s1 := hb1.size; (try simp only [World.size_alloc, World.size_setCell, setRow_size, World.size_drew] at r1 f1 s1)) | (go_at_call 63; with_reducible refine (HV.out _).mono ?_; rintro e w1 ⟨rfl, hb1⟩; have r1 := keep_rowA hb1; have f1 := keep_frA hb1; have s1 := hb1.size; (try simp only [World.size_alloc, World.size_setCell, setRow_size, World.size_drew] at r1 f1 s1)))
    go_region
    all_goals
      go_wp2
      refine bodyPost_ret (v := mixbV a b c wt sh d e f wu si) ?_ rfl ⟨rfl, by repeat' (first | with_reducible exact Below.refl _ _ | with_reducible assumption | with_reducible refine Below.drew ?_ | with_reducible refine Below.drewN ?_ _ | with_reducible refine Below.alloc ?_ ?_ _ | with_reducible refine Below.setCell ?_ ?_ _ | with_reducible refine Below.setRow ?_ ?_ _ | with_reducible refine below_step (by assumption) ?_ ?_ | (show (_ : Nat) ≤ _; first | omega | (simp <;> omega)))⟩
      rw [HE.out, if_pos ⟨HQ.out, HS.out⟩]
      exact res_cct rfl rfl (by (go_simp <;> (intros; omega))) rfl (by (go_simp <;> (intros; omega))) rfl
end Go.Proofs.Ytigiooollonmjaa
