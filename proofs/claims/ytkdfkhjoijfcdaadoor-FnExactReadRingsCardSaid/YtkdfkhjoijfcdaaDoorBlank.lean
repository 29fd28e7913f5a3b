/- White pictures and plain sheets. -/
import Derived.Test.YtkdfkhjoijfcdaaDoorShapes
import Derived.Test.YtkdfkhjoijfcdaaDoorEq
import Derived.Lib.Hide
namespace Go.Proofs.YtkdfkhjoijfcdaaDoor
open Go.RowKit
set_option linter.unusedVariables false
set_option linter.unusedSimpArgs false
set_option maxRecDepth 100000

def blank (a b : Int) : Nat → Int := fun j => if j = 0 then a else if j = 1 then b else 0
def blankV (ks : Nat → IntKind) (n : Nat) (a b : Int) : Value :=
  if inB a 1 8 = true ∧ inB b 1 8 = true then .tuple #[.agg (kc ks n (blank a b)), .int .i64 0] else .tuple #[.agg (kc ks n fun _ => 0), .int .i64 2]
theorem blankV_yes {ks : Nat → IntKind} {n : Nat} {a b : Int} (h : inB a 1 8 = true) (g : inB b 1 8 = true) : blankV ks n a b = .tuple #[.agg (kc ks n (blank a b)), .int .i64 0] := if_pos ⟨h, g⟩
theorem blankV_no1 {ks : Nat → IntKind} {n : Nat} {a b : Int} (h : inB a 1 8 = false) : blankV ks n a b = .tuple #[.agg (kc ks n fun _ => 0), .int .i64 2] := if_neg (fun g => by simp [h] at g)
theorem blankV_no2 {ks : Nat → IntKind} {n : Nat} {a b : Int} (h : inB b 1 8 = false) : blankV ks n a b = .tuple #[.agg (kc ks n fun _ => 0), .int .i64 2] := if_neg (fun g => by simp [h] at g)

end Go.Proofs.YtkdfkhjoijfcdaaDoor
