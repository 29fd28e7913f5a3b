/- Brushes: their load, and whether they are valid. -/
import Derived.Test.YtigiooollonmjaaBase
import Derived.Test.YtigiooollonmjaaOpen
namespace Go.Proofs.Ytigiooollonmjaa
open Go.RowKit
set_option linter.unusedVariables false
set_option linter.unusedSimpArgs false
set_option maxRecDepth 100000

abbrev brush (a b c wt sh : Int) : Array Value := #[.int .i16 a, .int .i16 b, .int .i16 c, .int .i16 wt, .int .i8 sh]
/-- The numbers of a brush are of their kinds. -/
structure FitBrush (a b c wt sh : Int) : Prop where
  a : -32768 ≤ a ∧ a ≤ 32767
  b : -32768 ≤ b ∧ b ≤ 32767
  c : -32768 ≤ c ∧ c ≤ 32767
  wt : -32768 ≤ wt ∧ wt ≤ 32767
  sh : -128 ≤ sh ∧ sh ≤ 127
theorem fitBrush {c : Nat → Int} (h : FitRow bk 5 c) : FitBrush (c 0) (c 1) (c 2) (c 3) (c 4) := ⟨bd_i16 (h 0 (by omega)), bd_i16 (h 1 (by omega)), bd_i16 (h 2 (by omega)), bd_i16 (h 3 (by omega)), bd_i8 (h 4 (by omega))⟩
def okBrush (a b c wt sh : Int) : Bool := decide (0 ≤ a ∧ a ≤ 900 ∧ 0 ≤ b ∧ b ≤ 900 ∧ 0 ≤ c ∧ c ≤ 900 ∧ a + b + c ≤ 900 ∧ 0 ≤ wt ∧ wt ≤ 200 ∧ 1 ≤ sh ∧ sh ≤ 16)

theorem toBrush_any (a b c wt sh : Int) (w : World) : Calls Try.prog 16 #[.agg (brush a b c wt sh)] w fun e w' => e = .returned (.agg (brush a b c wt sh)) ∧ Below w.heap.size w w' := by
  go_enter Try.func16, Try.ntmps16
  go_wp2_with ((go_at_call 62; refine (toInt16A3_lit _ _ _ _).mono ?_; rintro e w1 ⟨rfl, hb1⟩; have r1 := keep_rowA hb1; have f1 := keep_frA hb1; have s1 := hb1.size; (try simp only [World.size_alloc, World.size_setCell, setRow_size, World.size_drew, size_drewNm] at r1 f1 s1)))
  refine bodyPost_ret (v := .agg (brush a b c wt sh)) (res_c rfl rfl (by (go_simp <;> (intros; omega)))) rfl ⟨rfl, by repeat' (first | with_reducible exact Below.refl _ _ | with_reducible assumption | with_reducible refine Below.drew ?_ | with_reducible refine Below.drewN ?_ _ | with_reducible refine Below.alloc ?_ ?_ _ | with_reducible refine Below.setCell ?_ ?_ _ | with_reducible refine Below.setRow ?_ ?_ _ | with_reducible refine below_step (by assumption) ?_ ?_ | (show (_ : Nat) ≤ _; first | omega | (simp <;> omega)))⟩
theorem l04Load_any (p : Nat) (a b c wt sh : Int) (w : World) (hf : FitBrush a b c wt sh) (hr : rowOf w p = brush a b c wt sh) :
    Calls Try.prog 69 #[.pointer (some ⟨p, 0, none⟩)] w fun e w' => e = .returned (.int .i64 (a + b + c)) ∧ Below w.heap.size w w' := by
  have ⟨h1, h2, h3, h4, h5⟩ := hf
  go_enter Try.func69, Try.ntmps69
  go_wp2
  go_quiet (fail)
  go_wp2
  go_ret
  exact ⟨rfl, by repeat' (first | with_reducible exact Below.refl _ _ | with_reducible assumption | with_reducible refine Below.drew ?_ | with_reducible refine Below.drewN ?_ _ | with_reducible refine Below.alloc ?_ ?_ _ | with_reducible refine Below.setCell ?_ ?_ _ | with_reducible refine Below.setRow ?_ ?_ _ | with_reducible refine below_step (by assumption) ?_ ?_ | (show (_ : Nat) ≤ _; first | omega | (simp <;> omega)))⟩
theorem iLoadOf_any (a b c wt sh : Int) (w : World) (hf : FitBrush a b c wt sh) :
    Calls Try.prog 76 #[.agg (brush a b c wt sh)] w fun e w' => e = .returned (.int .i64 (a + b + c)) ∧ Below w.heap.size w w' := by
  have ⟨h1, h2, h3, h4, h5⟩ := hf
  go_enter Try.func76, Try.ntmps76
  go_wp2
  try go_quiet (fail)
  go_wp2
  go_ret
  exact ⟨rfl, by repeat' (first | with_reducible exact Below.refl _ _ | with_reducible assumption | with_reducible refine Below.drew ?_ | with_reducible refine Below.drewN ?_ _ | with_reducible refine Below.alloc ?_ ?_ _ | with_reducible refine Below.setCell ?_ ?_ _ | with_reducible refine Below.setRow ?_ ?_ _ | with_reducible refine below_step (by assumption) ?_ ?_ | (show (_ : Nat) ≤ _; first | omega | (simp <;> omega)))⟩
theorem l04Ok_any (p : Nat) (a b c wt sh : Int) (w : World) (hf : FitBrush a b c wt sh) (hr : rowOf w p = brush a b c wt sh) (hp : p < w.heap.size) :
    Calls Try.prog 61 #[.pointer (some ⟨p, 0, none⟩)] w fun e w' => e = .returned (.bool (okBrush a b c wt sh)) ∧ Below w.heap.size w w' := by
  have ⟨h1, h2, h3, h4, h5⟩ := hf
  go_enter Try.func61, Try.ntmps61
  go_wp2
  refine wp_loop_rounds 4 ?_; rw [rounds_succ]
  go_wp2_with (first | (rw [rounds_succ]) | (go_at_call 67; refine (l00In_any _ _ _ _).mono ?_; rintro e w1 ⟨rfl, rfl⟩) | (go_at_call 69; refine (l04Load_any _ _ _ _ _ _ _ hf (by (go_simp <;> (intros; omega)))).mono ?_; rintro e w1 ⟨rfl, hb1⟩; have r1 := keep_rowA hb1; have f1 := keep_frA hb1; have s1 := hb1.size; (try simp only [World.size_alloc, World.size_setCell, setRow_size, World.size_drew, size_drewNm] at r1 f1 s1)))
  all_goals
    go_ret
    refine ⟨congrArg (fun b => Ending.returned (.bool b)) ?_, by repeat' (first | with_reducible exact Below.refl _ _ | with_reducible assumption | with_reducible refine Below.drew ?_ | with_reducible refine Below.drewN ?_ _ | with_reducible refine Below.alloc ?_ ?_ _ | with_reducible refine Below.setCell ?_ ?_ _ | with_reducible refine Below.setRow ?_ ?_ _ | with_reducible refine below_step (by assumption) ?_ ?_ | (show (_ : Nat) ≤ _; first | omega | (simp <;> omega)))⟩
    (rw [Bool.eq_iff_iff]; simp [inB, okBrush] at * <;> omega)
theorem iValidBrush_any (a b c wt sh : Int) (w : World) (hf : FitBrush a b c wt sh) :
    Calls Try.prog 63 #[.agg (brush a b c wt sh)] w fun e w' => e = .returned (.bool (okBrush a b c wt sh)) ∧ Below w.heap.size w w' := by
  have ⟨h1, h2, h3, h4, h5⟩ := hf
  go_enter Try.func63, Try.ntmps63
  go_wp2
  refine wp_loop_rounds 4 ?_; rw [rounds_succ]
  go_wp2_with (first | (rw [rounds_succ]) | (go_at_call 75; refine (within_any _ _ _ _).mono ?_; rintro e w1 ⟨rfl, rfl⟩) | (go_at_call 76; refine (iLoadOf_any _ _ _ _ _ _ hf).mono ?_; rintro e w1 ⟨rfl, hb1⟩; have r1 := keep_rowA hb1; have f1 := keep_frA hb1; have s1 := hb1.size; (try simp only [World.size_alloc, World.size_setCell, setRow_size, World.size_drew, size_drewNm] at r1 f1 s1)))
  all_goals
    go_ret
    refine ⟨congrArg (fun b => Ending.returned (.bool b)) ?_, by repeat' (first | with_reducible exact Below.refl _ _ | with_reducible assumption | with_reducible refine Below.drew ?_ | with_reducible refine Below.drewN ?_ _ | with_reducible refine Below.alloc ?_ ?_ _ | with_reducible refine Below.setCell ?_ ?_ _ | with_reducible refine Below.setRow ?_ ?_ _ | with_reducible refine below_step (by assumption) ?_ ?_ | (show (_ : Nat) ≤ _; first | omega | (simp <;> omega)))⟩
    (rw [Bool.eq_iff_iff]; simp [inB, okBrush] at * <;> omega)
end Go.Proofs.Ytigiooollonmjaa
