/- Rinsing a brush. -/
import Derived.Test.YthieanbobniegaaBrush
import Derived.Test.YthieanbobniegaaEq
import Derived.Test.YthieanbobniegaaHeld
import Derived.RegionTactic
namespace Go.Proofs.Ythieanbobniegaa
open Go.RowKit
set_option linter.unusedVariables false
set_option linter.unusedSimpArgs false
set_option maxRecDepth 100000
def rinseV (a b c wt sh : Int) : Value :=
  if okBrush a b c wt sh = true then .tuple #[.agg (brush 0 0 0 0 sh), .agg #[.int .i64 a, .int .i64 b, .int .i64 c], .int .i64 0] else .tuple #[.agg (brush 0 0 0 0 0), .agg #[.int .i64 0, .int .i64 0, .int .i64 0], .int .i64 1]
theorem iRinse_any (a b c wt sh : Int) (w : World) (hf : FitBrush a b c wt sh) :
    Calls Try.prog 36 #[.agg (brush a b c wt sh)] w fun e w' => e = .returned (rinseV a b c wt sh) ∧ Below w.heap.size w w' := by
  have ⟨h1, h2, h3, h4, h5⟩ := hf
  cases ho : okBrush a b c wt sh
  · go_enter Try.func36, Try.ntmps36
    go_wp2_with ((go_at_call 23; refine (iValidBrush_any _ _ _ _ _ _ hf).mono ?_; rintro e w1 ⟨rfl, hb1⟩; have r1 := keep_rowA hb1; have f1 := keep_frA hb1; have s1 := hb1.size; try simp only [World.size_alloc, World.size_setCell, setRow_size, World.size_drew] at r1 f1 s1))
    refine bodyPost_ret (v := rinseV a b c wt sh) ?_ rfl ⟨rfl, by repeat' (first | with_reducible exact Below.refl _ _ | with_reducible assumption | with_reducible refine Below.drew ?_ | with_reducible refine Below.drewN ?_ _ | with_reducible refine Below.alloc ?_ ?_ _ | with_reducible refine Below.setCell ?_ ?_ _ | with_reducible refine Below.setRow ?_ ?_ _ | with_reducible refine below_step (by assumption) ?_ ?_ | (show (_ : Nat) ≤ _; first | omega | (simp <;> omega)))⟩
    rw [rinseV, if_neg (by simp [ho])]
    exact res_cct rfl rfl (by (go_simp <;> (intros; omega))) rfl (by (go_simp <;> (intros; omega))) rfl
  · go_enter Try.func36, Try.ntmps36
    go_wp2_with ((go_at_call 23; refine (iValidBrush_any _ _ _ _ _ _ hf).mono ?_; rintro e w1 ⟨rfl, hb1⟩; have r1 := keep_rowA hb1; have f1 := keep_frA hb1; have s1 := hb1.size; try simp only [World.size_alloc, World.size_setCell, setRow_size, World.size_drew] at r1 f1 s1))
    go_region
    all_goals
      go_wp2
      refine bodyPost_ret (v := rinseV a b c wt sh) ?_ rfl ⟨rfl, by repeat' (first | with_reducible exact Below.refl _ _ | with_reducible assumption | with_reducible refine Below.drew ?_ | with_reducible refine Below.drewN ?_ _ | with_reducible refine Below.alloc ?_ ?_ _ | with_reducible refine Below.setCell ?_ ?_ _ | with_reducible refine Below.setRow ?_ ?_ _ | with_reducible refine below_step (by assumption) ?_ ?_ | (show (_ : Nat) ≤ _; first | omega | (simp <;> omega)))⟩
      rw [rinseV, if_pos ho]
      exact res_cct rfl rfl (by (go_simp <;> (intros; omega))) rfl (by (go_simp <;> (intros; omega))) rfl
theorem sRinse_any (a b c wt sh : Int) (w : World) (hf : FitBrush a b c wt sh) :
    Calls Try.prog 35 #[.agg (brush a b c wt sh)] w fun e w' => e = .returned (rinseV a b c wt sh) ∧ Below w.heap.size w w' := by
  have ⟨h1, h2, h3, h4, h5⟩ := hf
  cases ho : okBrush a b c wt sh
  · go_enter Try.func35, Try.ntmps35
    go_wp2_with ((go_at_call 48; refine (l04Ok_any _ _ _ _ _ _ _ hf (by (go_simp <;> (intros; omega))) (by first | omega | (simp <;> omega))).mono ?_; rintro e w1 ⟨rfl, hb1⟩; have r1 := keep_rowA hb1; have f1 := keep_frA hb1; have s1 := hb1.size; try simp only [World.size_alloc, World.size_setCell, setRow_size, World.size_drew] at r1 f1 s1))
    refine bodyPost_ret (v := rinseV a b c wt sh) ?_ rfl ⟨rfl, by repeat' (first | with_reducible exact Below.refl _ _ | with_reducible assumption | with_reducible refine Below.drew ?_ | with_reducible refine Below.drewN ?_ _ | with_reducible refine Below.alloc ?_ ?_ _ | with_reducible refine Below.setCell ?_ ?_ _ | with_reducible refine Below.setRow ?_ ?_ _ | with_reducible refine below_step (by assumption) ?_ ?_ | (show (_ : Nat) ≤ _; first | omega | (simp <;> omega)))⟩
    rw [rinseV, if_neg (by simp [ho])]
    exact res_cct rfl rfl (by (go_simp <;> (intros; omega))) rfl (by (go_simp <;> (intros; omega))) rfl
  · go_enter Try.func35, Try.ntmps35
    go_wp2_with ((go_at_call 48; refine (l04Ok_any _ _ _ _ _ _ _ hf (by (go_simp <;> (intros; omega))) (by first | omega | (simp <;> omega))).mono ?_; rintro e w1 ⟨rfl, hb1⟩; have r1 := keep_rowA hb1; have f1 := keep_frA hb1; have s1 := hb1.size; try simp only [World.size_alloc, World.size_setCell, setRow_size, World.size_drew] at r1 f1 s1))
    go_region
    all_goals
      go_wp2
      refine bodyPost_ret (v := rinseV a b c wt sh) ?_ rfl ⟨rfl, by repeat' (first | with_reducible exact Below.refl _ _ | with_reducible assumption | with_reducible refine Below.drew ?_ | with_reducible refine Below.drewN ?_ _ | with_reducible refine Below.alloc ?_ ?_ _ | with_reducible refine Below.setCell ?_ ?_ _ | with_reducible refine Below.setRow ?_ ?_ _ | with_reducible refine below_step (by assumption) ?_ ?_ | (show (_ : Nat) ≤ _; first | omega | (simp <;> omega)))⟩
      rw [rinseV, if_pos ho]
      exact res_cct rfl rfl (by (go_simp <;> (intros; omega))) rfl (by (go_simp <;> (intros; omega))) rfl
end Go.Proofs.Ythieanbobniegaa
