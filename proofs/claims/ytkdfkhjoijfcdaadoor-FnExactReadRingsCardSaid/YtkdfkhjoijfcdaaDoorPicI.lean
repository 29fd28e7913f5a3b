/- A picture's code, its sheet, what a cell shows, and how many cells show each ink: the program. -/
import Derived.Test.YtkdfkhjoijfcdaaDoorPicsV
import Derived.Test.YtkdfkhjoijfcdaaDoorBlank
namespace Go.Proofs.YtkdfkhjoijfcdaaDoor
open Go.RowKit
set_option linter.unusedVariables false
set_option linter.unusedSimpArgs false
set_option maxRecDepth 100000
theorem fit_blank {c : Nat → Int} (hf : FitPicture c) : FitSheet (blank (c 0) (c 1)) where
  side := fun j hj => by
    have h0 := hf.side 0 (by omega)
    have h1 := hf.side 1 (by omega)
    unfold blank; repeat' split
    all_goals omega
  cell := fun j hj hk => by unfold blank; rw [if_neg (by omega), if_neg (by omega)]; omega
  wax := fun j hj hk => by unfold blank; rw [if_neg (by omega), if_neg (by omega)]; omega
theorem four {v : Int} (h : 0 ≤ v) (g : v ≤ 3) : v = 0 ∨ v = 1 ∨ v = 2 ∨ v = 3 := by omega
/-- What is known at the head of a round of 'counts': its boxes and the slice of cells hold these rows. -/
def Cnt3 (c : Nat → Int) (W n : Nat) (w0 w1 : World) (g : Nat) (i : Value) (wr : World) : Prop := ∃ k : Nat, k ≤ n ∧ i = .int .i64 k ∧ Below w0.heap.size w0 wr ∧ w1.heap.size ≤ wr.heap.size ∧ rowOf wr g = rowOf w1 g ∧ rowOf wr w0.heap.size = #[.int .i64 0, .int .i64 0, .int .i64 0] ∧ frOf wr w0.heap.size = (0, 0) ∧ rowOf wr (w0.heap.size + 1) = #[.int .i64 (cnt c W 1 k), .int .i64 (cnt c W 2 k), .int .i64 (cnt c W 3 k)] ∧ frOf wr (w0.heap.size + 1) = (0, 0)
end Go.Proofs.YtkdfkhjoijfcdaaDoor
