/- A picture's code, its sheet, what a cell shows, and how many cells show each ink: the program. -/
import Derived.Test.YtbnhhjjhjjmmjaaPicsV
import Derived.Test.YtbnhhjjhjjmmjaaBlank
namespace Go.Proofs.Ytbnhhjjhjjmmjaa
open Go.RowKit
set_option linter.unusedVariables false
set_option linter.unusedSimpArgs false
set_option maxRecDepth 100000
theorem fit_blank {c : Nat → Int} (hf : FitPicture c) : FitSheet (blank (c 0) (c 1)) where
  side := fun j hj => by
    have h0 := hf.side 0 (by omega)
    have h1 := hf.side 1 (by omega)
    unfold blank; repeat' split
    all_goals omega
  cell := fun j hj hk => by unfold blank; rw [if_neg (by omega), if_neg (by omega)]; omega
  wax := fun j hj hk => by unfold blank; rw [if_neg (by omega), if_neg (by omega)]; omega
set_option maxHeartbeats 1000000 in
theorem sheet_any (p : Nat) (c : Nat → Int) (hf : FitPicture c) (w : World) (hr : rowOf w p = kc pk 66 c) (hp : p < w.heap.size) :
    Calls Try.prog 40 #[.pointer (some ⟨p, 0, none⟩)] w fun e w' => ∃ n, e = .returned (.pointer (some ⟨n, 0, none⟩)) ∧ w.heap.size ≤ n ∧ n < w'.heap.size ∧ rowOf w' n = kc sk 266 (blank (c 0) (c 1)) ∧ Below w.heap.size w w' := by
  go_enter Try.func40, Try.ntmps40
  go_wp2
  go_region
  go_wp2
  go_ret
  exact ⟨_, rfl, (by first | omega | (simp <;> omega)), (by first | omega | (simp <;> omega)), by go_simp; rfl, by repeat' (first | with_reducible exact Below.refl _ _ | with_reducible assumption | with_reducible refine Below.drew ?_ | with_reducible refine Below.drewN ?_ _ | with_reducible refine Below.alloc ?_ ?_ _ | with_reducible refine Below.setCell ?_ ?_ _ | with_reducible refine Below.setRow ?_ ?_ _ | with_reducible refine below_step (by assumption) ?_ ?_ | (show (_ : Nat) ≤ _; first | omega | (simp <;> omega)))⟩
set_option maxHeartbeats 1000000 in
theorem shown_any (p : Nat) (c : Nat → Int) (hf : FitPicture c) (x y : Nat) (hx : x < 8) (hy : y < 8) (w : World) (hr : rowOf w p = kc pk 66 c) (hp : p < w.heap.size) :
    Calls Try.prog 43 #[.pointer (some ⟨p, 0, none⟩), .agg #[.int .i8 x, .int .i8 y]] w fun e w' => e = .returned (.int .u8 (c (2 + y * 8 + x))) ∧ Below w.heap.size w w' := by
  have hcell := hf.cell (2 + y * 8 + x) (by omega) (by omega)
  go_enter Try.func43, Try.ntmps43
  go_wp2
  go_quiet (fail)
  go_wp2
  go_ret
  exact ⟨rfl, by repeat' (first | with_reducible exact Below.refl _ _ | with_reducible assumption | with_reducible refine Below.drew ?_ | with_reducible refine Below.drewN ?_ _ | with_reducible refine Below.alloc ?_ ?_ _ | with_reducible refine Below.setCell ?_ ?_ _ | with_reducible refine Below.setRow ?_ ?_ _ | with_reducible refine below_step (by assumption) ?_ ?_ | (show (_ : Nat) ≤ _; first | omega | (simp <;> omega)))⟩
theorem four {v : Int} (h : 0 ≤ v) (g : v ≤ 3) : v = 0 ∨ v = 1 ∨ v = 2 ∨ v = 3 := by omega
/-- What is known at the head of a round of 'counts': its boxes and the slice of cells hold these rows. -/
def Cnt3 (c : Nat → Int) (W n : Nat) (w0 w1 : World) (g : Nat) (i : Value) (wr : World) : Prop := ∃ k : Nat, k ≤ n ∧ i = .int .i64 k ∧ Below w0.heap.size w0 wr ∧ w1.heap.size ≤ wr.heap.size ∧ rowOf wr g = rowOf w1 g ∧ rowOf wr w0.heap.size = #[.int .i64 0, .int .i64 0, .int .i64 0] ∧ frOf wr w0.heap.size = (0, 0) ∧ rowOf wr (w0.heap.size + 1) = #[.int .i64 (cnt c W 1 k), .int .i64 (cnt c W 2 k), .int .i64 (cnt c W 3 k)] ∧ frOf wr (w0.heap.size + 1) = (0, 0)
end Go.Proofs.Ytbnhhjjhjjmmjaa
