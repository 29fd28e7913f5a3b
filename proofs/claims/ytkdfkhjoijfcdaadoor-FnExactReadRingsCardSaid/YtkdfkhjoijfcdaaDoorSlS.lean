/- Slices of spots: the statements' own comparing, marking and looking up. -/
import Derived.Test.YtkdfkhjoijfcdaaDoorSlI
import Derived.StillTailTactics
namespace Go.Proofs.YtkdfkhjoijfcdaaDoor
open Go.RowKit
set_option linter.unusedVariables false
set_option linter.unusedSimpArgs false
set_option maxRecDepth 100000
/-- The marks' numbers. -/
def mS (k0 : Int) (j : Nat) : Int := IntKind.i8.wrap (k0 + (j : Int))
end Go.Proofs.YtkdfkhjoijfcdaaDoor
