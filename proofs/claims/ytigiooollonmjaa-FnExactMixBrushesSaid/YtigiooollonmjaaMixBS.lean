/- Two brushes share what they have: one side. Written by gen_mixb.py. -/
import Derived.Test.YtigiooollonmjaaMixBV
import Derived.RegionTactic
namespace Go.Proofs.Ytigiooollonmjaa
open Go.RowKit
set_option linter.unusedVariables false
set_option linter.unusedSimpArgs false
set_option maxRecDepth 100000
set_option maxHeartbeats 8000000 in
theorem sMixB_any (a b c wt sh d e f wu si : Int) (w : World) (hf : FitBrush a b c wt sh) (hg : FitBrush d e f wu si) :
    Calls Try.prog 15 #[.agg (brush a b c wt sh), .agg (brush d e f wu si)] w fun e' w' => e' = .returned (mixbV a b c wt sh d e f wu si) ∧ Below w.heap.size w w' := by
  have ⟨h1, h2, h3, h4, h5⟩ := hf
  have ⟨g1, g2, g3, g4, g5⟩ := hg
  cases ho : okBrush a b c wt sh
  case false =>
    rw [show mixbV a b c wt sh d e f wu si = .tuple #[.agg (brush 0 0 0 0 0), .agg (brush 0 0 0 0 0), .int .i64 1] by unfold mixbV; rw [if_neg (by simp [ho])]]
    go_enter Try.func15, Try.ntmps15
    go_wp2_with (first | (go_at_call 61; refine (l04Ok_any _ a b c wt sh _ hf ?_ ?_).mono ?_; (focus (go_simp <;> (intros; omega))); (focus (first | omega | (simp <;> omega))); rintro e w1 ⟨rfl, hb1⟩; have r1 := keep_rowA hb1; have f1 := keep_frA hb1; have s1 := hb1.size; (try simp only [World.size_alloc, World.size_setCell, setRow_size, World.size_drew] at r1 f1 s1)) | (go_at_call 61; refine (l04Ok_any _ d e f wu si _ hg ?_ ?_).mono ?_; (focus (go_simp <;> (intros; omega))); (focus (first | omega | (simp <;> omega))); rintro e w1 ⟨rfl, hb1⟩; have r1 := keep_rowA hb1; have f1 := keep_frA hb1; have s1 := hb1.size; (try simp only [World.size_alloc, World.size_setCell, setRow_size, World.size_drew] at r1 f1 s1)))
    refine bodyPost_ret (v := .tuple #[.agg (brush 0 0 0 0 0), .agg (brush 0 0 0 0 0), .int .i64 1]) (res_cct rfl rfl (by (go_simp <;> (intros; omega))) rfl (by (go_simp <;> (intros; omega))) rfl) rfl ⟨rfl, by repeat' (first | with_reducible exact Below.refl _ _ | with_reducible assumption | with_reducible refine Below.drew ?_ | with_reducible refine Below.drewN ?_ _ | with_reducible refine Below.alloc ?_ ?_ _ | with_reducible refine Below.setCell ?_ ?_ _ | with_reducible refine Below.setRow ?_ ?_ _ | with_reducible refine below_step (by assumption) ?_ ?_ | (show (_ : Nat) ≤ _; first | omega | (simp <;> omega)))⟩
  cases hp : okBrush d e f wu si
  case false =>
    rw [show mixbV a b c wt sh d e f wu si = .tuple #[.agg (brush 0 0 0 0 0), .agg (brush 0 0 0 0 0), .int .i64 1] by unfold mixbV; rw [if_neg (by simp [hp])]]
    go_enter Try.func15, Try.ntmps15
    go_wp2_with (first | (go_at_call 61; refine (l04Ok_any _ a b c wt sh _ hf ?_ ?_).mono ?_; (focus (go_simp <;> (intros; omega))); (focus (first | omega | (simp <;> omega))); rintro e w1 ⟨rfl, hb1⟩; have r1 := keep_rowA hb1; have f1 := keep_frA hb1; have s1 := hb1.size; (try simp only [World.size_alloc, World.size_setCell, setRow_size, World.size_drew] at r1 f1 s1)) | (go_at_call 61; refine (l04Ok_any _ d e f wu si _ hg ?_ ?_).mono ?_; (focus (go_simp <;> (intros; omega))); (focus (first | omega | (simp <;> omega))); rintro e w1 ⟨rfl, hb1⟩; have r1 := keep_rowA hb1; have f1 := keep_frA hb1; have s1 := hb1.size; (try simp only [World.size_alloc, World.size_setCell, setRow_size, World.size_drew] at r1 f1 s1)))
    refine bodyPost_ret (v := .tuple #[.agg (brush 0 0 0 0 0), .agg (brush 0 0 0 0 0), .int .i64 1]) (res_cct rfl rfl (by (go_simp <;> (intros; omega))) rfl (by (go_simp <;> (intros; omega))) rfl) rfl ⟨rfl, by repeat' (first | with_reducible exact Below.refl _ _ | with_reducible assumption | with_reducible refine Below.drew ?_ | with_reducible refine Below.drewN ?_ _ | with_reducible refine Below.alloc ?_ ?_ _ | with_reducible refine Below.setCell ?_ ?_ _ | with_reducible refine Below.setRow ?_ ?_ _ | with_reducible refine below_step (by assumption) ?_ ?_ | (show (_ : Nat) ≤ _; first | omega | (simp <;> omega)))⟩
  have ⟨o1, o2, o3, o4, o5, o6, o7, o8, o9, o10, o11⟩ := okBrush_in ho
  have ⟨p1, p2, p3, p4, p5, p6, p7, p8, p9, p10, p11⟩ := okBrush_in hp
  have u0 := up2_in (s := a + d) (by omega) (by omega)
  have v0 := dn2_in (s := a + d) (by omega) (by omega)
  have u1 := up2_in (s := b + e) (by omega) (by omega)
  have v1 := dn2_in (s := b + e) (by omega) (by omega)
  have u2 := up2_in (s := c + f) (by omega) (by omega)
  have v2 := dn2_in (s := c + f) (by omega) (by omega)
  have u3 := up2_in (s := wt + wu) (by omega) (by omega)
  have v3 := dn2_in (s := wt + wu) (by omega) (by omega)
  have hu : FitBrush (up2 (a + d)) (up2 (b + e)) (up2 (c + f)) (up2 (wt + wu)) sh := ⟨by omega, by omega, by omega, by omega, h5⟩
  have hv : FitBrush (dn2 (a + d)) (dn2 (b + e)) (dn2 (c + f)) (dn2 (wt + wu)) si := ⟨by omega, by omega, by omega, by omega, g5⟩
  have eu0 := up2_wrap (s := a + d) (by omega) (by omega)
  have ev0 := dn2_wrap (s := a + d) (by omega) (by omega)
  have eu1 := up2_wrap (s := b + e) (by omega) (by omega)
  have ev1 := dn2_wrap (s := b + e) (by omega) (by omega)
  have eu2 := up2_wrap (s := c + f) (by omega) (by omega)
  have ev2 := dn2_wrap (s := c + f) (by omega) (by omega)
  have eu3 := up2_wrap (s := wt + wu) (by omega) (by omega)
  have ev3 := dn2_wrap (s := wt + wu) (by omega) (by omega)
  have E : mixbV a b c wt sh d e f wu si = if okBrush (up2 (a + d)) (up2 (b + e)) (up2 (c + f)) (up2 (wt + wu)) sh = true ∧ okBrush (dn2 (a + d)) (dn2 (b + e)) (dn2 (c + f)) (dn2 (wt + wu)) si = true then .tuple #[.agg (brush (up2 (a + d)) (up2 (b + e)) (up2 (c + f)) (up2 (wt + wu)) sh), .agg (brush (dn2 (a + d)) (dn2 (b + e)) (dn2 (c + f)) (dn2 (wt + wu)) si), .int .i64 0] else .tuple #[.agg (brush 0 0 0 0 0), .agg (brush 0 0 0 0 0), .int .i64 3] := by
    unfold mixbV; rw [if_pos ⟨ho, hp⟩]
  cases hq : okBrush (up2 (a + d)) (up2 (b + e)) (up2 (c + f)) (up2 (wt + wu)) sh
  case false =>
    rw [E, if_neg (by simp [hq])]
    clear E
    go_enter Try.func15, Try.ntmps15
    go_wp2_with (first | (go_at_call 61; refine (l04Ok_any _ a b c wt sh _ hf ?_ ?_).mono ?_; (focus (go_simp <;> (intros; omega))); (focus (first | omega | (simp <;> omega))); rintro e w1 ⟨rfl, hb1⟩; have r1 := keep_rowA hb1; have f1 := keep_frA hb1; have s1 := hb1.size; (try simp only [World.size_alloc, World.size_setCell, setRow_size, World.size_drew] at r1 f1 s1)) | (go_at_call 61; refine (l04Ok_any _ d e f wu si _ hg ?_ ?_).mono ?_; (focus (go_simp <;> (intros; omega))); (focus (first | omega | (simp <;> omega))); rintro e w1 ⟨rfl, hb1⟩; have r1 := keep_rowA hb1; have f1 := keep_frA hb1; have s1 := hb1.size; (try simp only [World.size_alloc, World.size_setCell, setRow_size, World.size_drew] at r1 f1 s1)))
    refine wp_loop_rounds 4 ?_; rw [rounds_succ]
    go_wp2
    go_region
    go_wp2_with ((rw [rounds_succ]))
    go_region
    go_wp2_with ((rw [rounds_succ]))
    go_region
    go_wp2_with (first | (rw [rounds_succ]) | (go_at_call 61; refine (l04Ok_any _ a b c wt sh _ hf ?_ ?_).mono ?_; (focus (go_simp <;> (intros; omega))); (focus (first | omega | (simp <;> omega))); rintro e w1 ⟨rfl, hb1⟩; have r1 := keep_rowA hb1; have f1 := keep_frA hb1; have s1 := hb1.size; (try simp only [World.size_alloc, World.size_setCell, setRow_size, World.size_drew] at r1 f1 s1)) | (go_at_call 61; refine (l04Ok_any _ d e f wu si _ hg ?_ ?_).mono ?_; (focus (go_simp <;> (intros; omega))); (focus (first | omega | (simp <;> omega))); rintro e w1 ⟨rfl, hb1⟩; have r1 := keep_rowA hb1; have f1 := keep_frA hb1; have s1 := hb1.size; (try simp only [World.size_alloc, World.size_setCell, setRow_size, World.size_drew] at r1 f1 s1)) | (go_at_call 61; refine (l04Ok_any _ (up2 (a + d)) (up2 (b + e)) (up2 (c + f)) (up2 (wt + wu)) sh _ hu ?_ ?_).mono ?_; (focus (go_simp <;> (intros; omega))); (focus (first | omega | (simp <;> omega))); rintro e w1 ⟨rfl, hb1⟩; have r1 := keep_rowA hb1; have f1 := keep_frA hb1; have s1 := hb1.size; (try simp only [World.size_alloc, World.size_setCell, setRow_size, World.size_drew] at r1 f1 s1)) | (go_at_call 61; refine (l04Ok_any _ (dn2 (a + d)) (dn2 (b + e)) (dn2 (c + f)) (dn2 (wt + wu)) si _ hv ?_ ?_).mono ?_; (focus (go_simp <;> (intros; omega))); (focus (first | omega | (simp <;> omega))); rintro e w1 ⟨rfl, hb1⟩; have r1 := keep_rowA hb1; have f1 := keep_frA hb1; have s1 := hb1.size; (try simp only [World.size_alloc, World.size_setCell, setRow_size, World.size_drew] at r1 f1 s1)))
    refine bodyPost_ret (v := .tuple #[.agg (brush 0 0 0 0 0), .agg (brush 0 0 0 0 0), .int .i64 3]) (res_cct rfl rfl (by (go_simp <;> (intros; omega))) rfl (by (go_simp <;> (intros; omega))) rfl) rfl ⟨rfl, by repeat' (first | with_reducible exact Below.refl _ _ | with_reducible assumption | with_reducible refine Below.drew ?_ | with_reducible refine Below.drewN ?_ _ | with_reducible refine Below.alloc ?_ ?_ _ | with_reducible refine Below.setCell ?_ ?_ _ | with_reducible refine Below.setRow ?_ ?_ _ | with_reducible refine below_step (by assumption) ?_ ?_ | (show (_ : Nat) ≤ _; first | omega | (simp <;> omega)))⟩
  cases hs : okBrush (dn2 (a + d)) (dn2 (b + e)) (dn2 (c + f)) (dn2 (wt + wu)) si
  case false =>
    rw [E, if_neg (by simp [hs])]
    clear E
    go_enter Try.func15, Try.ntmps15
    go_wp2_with (first | (go_at_call 61; refine (l04Ok_any _ a b c wt sh _ hf ?_ ?_).mono ?_; (focus (go_simp <;> (intros; omega))); (focus (first | omega | (simp <;> omega))); rintro e w1 ⟨rfl, hb1⟩; have r1 := keep_rowA hb1; have f1 := keep_frA hb1; have s1 := hb1.size; (try simp only [World.size_alloc, World.size_setCell, setRow_size, World.size_drew] at r1 f1 s1)) | (go_at_call 61; refine (l04Ok_any _ d e f wu si _ hg ?_ ?_).mono ?_; (focus (go_simp <;> (intros; omega))); (focus (first | omega | (simp <;> omega))); rintro e w1 ⟨rfl, hb1⟩; have r1 := keep_rowA hb1; have f1 := keep_frA hb1; have s1 := hb1.size; (try simp only [World.size_alloc, World.size_setCell, setRow_size, World.size_drew] at r1 f1 s1)))
    refine wp_loop_rounds 4 ?_; rw [rounds_succ]
    go_wp2
    go_region
    go_wp2_with ((rw [rounds_succ]))
    go_region
    go_wp2_with ((rw [rounds_succ]))
    go_region
    go_wp2_with (first | (rw [rounds_succ]) | (go_at_call 61; refine (l04Ok_any _ a b c wt sh _ hf ?_ ?_).mono ?_; (focus (go_simp <;> (intros; omega))); (focus (first | omega | (simp <;> omega))); rintro e w1 ⟨rfl, hb1⟩; have r1 := keep_rowA hb1; have f1 := keep_frA hb1; have s1 := hb1.size; (try simp only [World.size_alloc, World.size_setCell, setRow_size, World.size_drew] at r1 f1 s1)) | (go_at_call 61; refine (l04Ok_any _ d e f wu si _ hg ?_ ?_).mono ?_; (focus (go_simp <;> (intros; omega))); (focus (first | omega | (simp <;> omega))); rintro e w1 ⟨rfl, hb1⟩; have r1 := keep_rowA hb1; have f1 := keep_frA hb1; have s1 := hb1.size; (try simp only [World.size_alloc, World.size_setCell, setRow_size, World.size_drew] at r1 f1 s1)) | (go_at_call 61; refine (l04Ok_any _ (up2 (a + d)) (up2 (b + e)) (up2 (c + f)) (up2 (wt + wu)) sh _ hu ?_ ?_).mono ?_; (focus (go_simp <;> (intros; omega))); (focus (first | omega | (simp <;> omega))); rintro e w1 ⟨rfl, hb1⟩; have r1 := keep_rowA hb1; have f1 := keep_frA hb1; have s1 := hb1.size; (try simp only [World.size_alloc, World.size_setCell, setRow_size, World.size_drew] at r1 f1 s1)) | (go_at_call 61; refine (l04Ok_any _ (dn2 (a + d)) (dn2 (b + e)) (dn2 (c + f)) (dn2 (wt + wu)) si _ hv ?_ ?_).mono ?_; (focus (go_simp <;> (intros; omega))); (focus (first | omega | (simp <;> omega))); rintro e w1 ⟨rfl, hb1⟩; have r1 := keep_rowA hb1; have f1 := keep_frA hb1; have s1 := hb1.size; (try simp only [World.size_alloc, World.size_setCell, setRow_size, World.size_drew] at r1 f1 s1)))
    refine bodyPost_ret (v := .tuple #[.agg (brush 0 0 0 0 0), .agg (brush 0 0 0 0 0), .int .i64 3]) (res_cct rfl rfl (by (go_simp <;> (intros; omega))) rfl (by (go_simp <;> (intros; omega))) rfl) rfl ⟨rfl, by repeat' (first | with_reducible exact Below.refl _ _ | with_reducible assumption | with_reducible refine Below.drew ?_ | with_reducible refine Below.drewN ?_ _ | with_reducible refine Below.alloc ?_ ?_ _ | with_reducible refine Below.setCell ?_ ?_ _ | with_reducible refine Below.setRow ?_ ?_ _ | with_reducible refine below_step (by assumption) ?_ ?_ | (show (_ : Nat) ≤ _; first | omega | (simp <;> omega)))⟩
  rw [E, if_pos ⟨hq, hs⟩]
  clear E
  go_enter Try.func15, Try.ntmps15
  go_wp2_with (first | (go_at_call 61; refine (l04Ok_any _ a b c wt sh _ hf ?_ ?_).mono ?_; (focus (go_simp <;> (intros; omega))); (focus (first | omega | (simp <;> omega))); rintro e w1 ⟨rfl, hb1⟩; have r1 := keep_rowA hb1; have f1 := keep_frA hb1; have s1 := hb1.size; (try simp only [World.size_alloc, World.size_setCell, setRow_size, World.size_drew] at r1 f1 s1)) | (go_at_call 61; refine (l04Ok_any _ d e f wu si _ hg ?_ ?_).mono ?_; (focus (go_simp <;> (intros; omega))); (focus (first | omega | (simp <;> omega))); rintro e w1 ⟨rfl, hb1⟩; have r1 := keep_rowA hb1; have f1 := keep_frA hb1; have s1 := hb1.size; (try simp only [World.size_alloc, World.size_setCell, setRow_size, World.size_drew] at r1 f1 s1)))
  refine wp_loop_rounds 4 ?_; rw [rounds_succ]
  go_wp2
  go_region
  go_wp2_with ((rw [rounds_succ]))
  go_region
  go_wp2_with ((rw [rounds_succ]))
  go_region
  go_wp2_with (first | (rw [rounds_succ]) | (go_at_call 61; refine (l04Ok_any _ a b c wt sh _ hf ?_ ?_).mono ?_; (focus (go_simp <;> (intros; omega))); (focus (first | omega | (simp <;> omega))); rintro e w1 ⟨rfl, hb1⟩; have r1 := keep_rowA hb1; have f1 := keep_frA hb1; have s1 := hb1.size; (try simp only [World.size_alloc, World.size_setCell, setRow_size, World.size_drew] at r1 f1 s1)) | (go_at_call 61; refine (l04Ok_any _ d e f wu si _ hg ?_ ?_).mono ?_; (focus (go_simp <;> (intros; omega))); (focus (first | omega | (simp <;> omega))); rintro e w1 ⟨rfl, hb1⟩; have r1 := keep_rowA hb1; have f1 := keep_frA hb1; have s1 := hb1.size; (try simp only [World.size_alloc, World.size_setCell, setRow_size, World.size_drew] at r1 f1 s1)) | (go_at_call 61; refine (l04Ok_any _ (up2 (a + d)) (up2 (b + e)) (up2 (c + f)) (up2 (wt + wu)) sh _ hu ?_ ?_).mono ?_; (focus (go_simp <;> (intros; omega))); (focus (first | omega | (simp <;> omega))); rintro e w1 ⟨rfl, hb1⟩; have r1 := keep_rowA hb1; have f1 := keep_frA hb1; have s1 := hb1.size; (try simp only [World.size_alloc, World.size_setCell, setRow_size, World.size_drew] at r1 f1 s1)) | (go_at_call 61; refine (l04Ok_any _ (dn2 (a + d)) (dn2 (b + e)) (dn2 (c + f)) (dn2 (wt + wu)) si _ hv ?_ ?_).mono ?_; (focus (go_simp <;> (intros; omega))); (focus (first | omega | (simp <;> omega))); rintro e w1 ⟨rfl, hb1⟩; have r1 := keep_rowA hb1; have f1 := keep_frA hb1; have s1 := hb1.size; (try simp only [World.size_alloc, World.size_setCell, setRow_size, World.size_drew] at r1 f1 s1)))
  go_region
  all_goals
    go_wp2
    refine bodyPost_ret (v := .tuple #[.agg (brush (up2 (a + d)) (up2 (b + e)) (up2 (c + f)) (up2 (wt + wu)) sh), .agg (brush (dn2 (a + d)) (dn2 (b + e)) (dn2 (c + f)) (dn2 (wt + wu)) si), .int .i64 0]) (res_cct rfl rfl (by (go_simp <;> (intros; omega))) rfl (by (go_simp <;> (intros; omega))) rfl) rfl ⟨rfl, by repeat' (first | with_reducible exact Below.refl _ _ | with_reducible assumption | with_reducible refine Below.drew ?_ | with_reducible refine Below.drewN ?_ _ | with_reducible refine Below.alloc ?_ ?_ _ | with_reducible refine Below.setCell ?_ ?_ _ | with_reducible refine Below.setRow ?_ ?_ _ | with_reducible refine below_step (by assumption) ?_ ?_ | (show (_ : Nat) ≤ _; first | omega | (simp <;> omega)))⟩
end Go.Proofs.Ytigiooollonmjaa
