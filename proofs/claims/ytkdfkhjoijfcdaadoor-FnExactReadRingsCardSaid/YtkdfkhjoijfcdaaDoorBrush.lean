/- Brushes: their load, and whether they are valid. -/
import Derived.Test.YtkdfkhjoijfcdaaDoorBase
import Derived.Test.YtkdfkhjoijfcdaaDoorOpen
namespace Go.Proofs.YtkdfkhjoijfcdaaDoor
open Go.RowKit
set_option linter.unusedVariables false
set_option linter.unusedSimpArgs false
set_option maxRecDepth 100000

abbrev brush (a b c wt sh : Int) : Array Value := #[.int .i16 a, .int .i16 b, .int .i16 c, .int .i16 wt, .int .i8 sh]
/-- The numbers of a brush are of their kinds. -/
structure FitBrush (a b c wt sh : Int) : Prop where
  a : -32768 ≤ a ∧ a ≤ 32767
  b : -32768 ≤ b ∧ b ≤ 32767
  c : -32768 ≤ c ∧ c ≤ 32767
  wt : -32768 ≤ wt ∧ wt ≤ 32767
  sh : -128 ≤ sh ∧ sh ≤ 127
theorem fitBrush {c : Nat → Int} (h : FitRow bk 5 c) : FitBrush (c 0) (c 1) (c 2) (c 3) (c 4) := ⟨bd_i16 (h 0 (by omega)), bd_i16 (h 1 (by omega)), bd_i16 (h 2 (by omega)), bd_i16 (h 3 (by omega)), bd_i8 (h 4 (by omega))⟩
def okBrush (a b c wt sh : Int) : Bool := decide (0 ≤ a ∧ a ≤ 900 ∧ 0 ≤ b ∧ b ≤ 900 ∧ 0 ≤ c ∧ c ≤ 900 ∧ a + b + c ≤ 900 ∧ 0 ≤ wt ∧ wt ≤ 200 ∧ 1 ≤ sh ∧ sh ≤ 16)

end Go.Proofs.YtkdfkhjoijfcdaaDoor
