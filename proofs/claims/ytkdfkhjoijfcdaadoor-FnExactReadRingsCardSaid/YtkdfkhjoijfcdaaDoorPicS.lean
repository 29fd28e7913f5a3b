/- All cells of a picture, ordered, in a new slice, and how many show a number: the reference. -/
import Derived.Test.YtkdfkhjoijfcdaaDoorPicsV
import Derived.Laws.AppendOwn
namespace Go.Proofs.YtkdfkhjoijfcdaaDoor
open Go.RowKit
set_option linter.unusedVariables false
set_option linter.unusedSimpArgs false
set_option maxRecDepth 100000
/-- What is known at the head of a round over the cells that a slice holds: so far m was seen so often. -/
def CntR (c : Nat → Int) (W n : Nat) (m : Int) (w0 w1 : World) (i s : Value) (wr : World) : Prop := ∃ k : Nat, k ≤ n ∧ i = .int .i64 k ∧ s = .int .i64 (cnt c W m k) ∧ Below w0.heap.size w0 wr ∧ Below w1.heap.size w1 wr
end Go.Proofs.YtkdfkhjoijfcdaaDoor
