/- What is asked of a sheet and a cell. Written by gen_ask.py. -/
import Derived.Test.YtkdfkhjoijfcdaaDoorSheetOkI
namespace Go.Proofs.YtkdfkhjoijfcdaaDoor
open Go.RowKit
set_option linter.unusedVariables false
set_option linter.unusedSimpArgs false
set_option maxRecDepth 100000
/-- The code of a question: the sheet is valid, it has the cell, the rest is as told. -/
def askB (o i f : Bool) : Int := if o then (if i && f then 0 else 2) else 1
theorem askB_and (o i f : Bool) : askB o (i && f) true = askB o i f := by cases o <;> cases i <;> cases f <;> rfl
theorem isP_nat {c : Nat → Int} {x y : Int} (ho : okS c = true) (hi : isP c x y = true) : ∃ x' y' : Nat, x = x' ∧ y = y' ∧ x' < 8 ∧ y' < 8 := by
  have ⟨h0, h1, _⟩ : OkS c := by simpa [okS] using ho
  simp only [isP, Bool.and_eq_true, inB_true] at hi
  exact ⟨x.toNat, y.toNat, by omega, by omega, by omega, by omega⟩
theorem res_tt {P : Program} {fn : Func} {tmps : Array Value} {w : World} {u0 : Tmp} {x0 : Value} {u1 : Tmp} {x1 : Value} (h : fn.results = #[.tmp u0, .tmp u1]) (hx0 : tmps.getD u0 undef = x0) (hx1 : tmps.getD u1 undef = x1) :
    (results fn tmps).run P w = .ok (.tuple #[x0, x1]) w := by
  simp only [Array.getD_eq_getD_getElem?] at *
  simp [results, h, hx0, hx1]
end Go.Proofs.YtkdfkhjoijfcdaaDoor
