/- '==' and '!=' at the program's types of many integers. -/
import Derived.Test.YtejnejplofddnaaGreatDoorTy
import Derived.Test.YtejnejplofddnaaGreatDoorFlatEq
namespace Go.Proofs.YtejnejplofddnaaGreatDoor
open Go.RowKit
/-- The tests behind names that the walk's own rules do not open. -/
def eqlR (t : TypeId) (x y : Value) : Sem Value := binOp .eql t x y
def neqR (t : TypeId) (x y : Value) : Sem Value := binOp .neq t x y
theorem run_eqlR {P : Program} {t : TypeId} {x y : Array Value} {r : Bool} {w : World} (h : (Op.equal t (.agg x) (.agg y)).run P w = .ok r w) : (eqlR t (.agg x) (.agg y)).run P w = .ok (.bool r) w := by
  simp only [eqlR, binOp]
  simp [h]
theorem run_neqR {P : Program} {t : TypeId} {x y : Array Value} {r : Bool} {w : World} (h : (Op.equal t (.agg x) (.agg y)).run P w = .ok r w) : (neqR t (.agg x) (.agg y)).run P w = .ok (.bool (!r)) w := by
  simp only [neqR, binOp]
  simp [h]

@[go_sem] theorem guard_iSheet : Tryz.prog.eqGuardType Tryz.prog.depth 33 = false := by kernel_rfl
@[go_sem ↓] theorem toEql_iSheet (x y : Value) : binOp .eql 33 x y = eqlR 33 x y := rfl
@[go_sem ↓] theorem toNeq_iSheet (x y : Value) : binOp .neq 33 x y = neqR 33 x y := rfl
@[go_sem] theorem eql_iSheet (c d : Nat → Int) (hc : FitRow sk 266 c) (hd : FitRow sk 266 d) (w : World) : (eqlR 33 (.agg (kc sk 266 c)) (.agg (kc sk 266 d))).run Tryz.prog w = .ok (.bool (eqRow 266 c d)) w := run_eqlR (run_eql_flat (by kernel_rfl) (by kernel_rfl) (by kernel_rfl) c d hc hd w)
@[go_sem] theorem neq_iSheet (c d : Nat → Int) (hc : FitRow sk 266 c) (hd : FitRow sk 266 d) (w : World) : (neqR 33 (.agg (kc sk 266 c)) (.agg (kc sk 266 d))).run Tryz.prog w = .ok (.bool (!eqRow 266 c d)) w := run_neqR (run_eql_flat (by kernel_rfl) (by kernel_rfl) (by kernel_rfl) c d hc hd w)
end Go.Proofs.YtejnejplofddnaaGreatDoor
