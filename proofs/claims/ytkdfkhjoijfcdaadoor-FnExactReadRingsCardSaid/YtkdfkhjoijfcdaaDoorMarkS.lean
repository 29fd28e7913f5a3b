/- The text of a mark: the reference. -/
import Derived.Test.YtkdfkhjoijfcdaaDoorMark
import Derived.Deep.RegionHeld3
namespace Go.Proofs.YtkdfkhjoijfcdaaDoor
open Go.RowKit
set_option linter.unusedVariables false
set_option linter.unusedSimpArgs false
set_option maxRecDepth 100000
theorem markB_bad {col : Int} {f : Nat → Int} {n k : Nat} (hk : k < n) (h : ¬ ((0 ≤ f (k * 2) ∧ f (k * 2) ≤ 7) ∧ 0 ≤ f (k * 2 + 1) ∧ f (k * 2 + 1) ≤ 7)) : markB col f n = false := by unfold markB; rw [cells8_no hk h, Bool.and_false]
theorem markB_good {col : Int} {f : Nat → Int} {n : Nat} (h : CellsTo f n) : markB col f n = (inB col 0 2 && inB (n : Int) 1 64) := by unfold markB; rw [cells8_yes h, Bool.and_true]
end Go.Proofs.YtkdfkhjoijfcdaaDoor
