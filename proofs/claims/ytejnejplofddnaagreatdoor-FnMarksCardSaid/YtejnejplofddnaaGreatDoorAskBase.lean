/- What is asked of a sheet and a cell. Written by gen_ask.py. -/
import Derived.Test.YtejnejplofddnaaGreatDoorSheetOkI
namespace Go.Proofs.YtejnejplofddnaaGreatDoor
open Go.RowKit
set_option linter.unusedVariables false
set_option linter.unusedSimpArgs false
set_option maxRecDepth 100000
/-- The code of a question: the sheet is valid, it has the cell, the rest is as told. -/
def askB (o i f : Bool) : Int := if o then (if i && f then 0 else 2) else 1
theorem askB_and (o i f : Bool) : askB o (i && f) true = askB o i f := by cases o <;> cases i <;> cases f <;> rfl
theorem isP_nat {c : Nat → Int} {x y : Int} (ho : okS c = true) (hi : isP c x y = true) : ∃ x' y' : Nat, x = x' ∧ y = y' ∧ x' < 8 ∧ y' < 8 := by
  have ⟨h0, h1, _⟩ : OkS c := by simpa [okS] using ho
  simp only [isP, Bool.and_eq_true, inB_true] at hi
  exact ⟨x.toNat, y.toNat, by omega, by omega, by omega, by omega⟩
theorem res_tt {P : Program} {fn : Func} {tmps : Array Value} {w : World} {u0 : Tmp} {x0 : Value} {u1 : Tmp} {x1 : Value} (h : fn.results = #[.tmp u0, .tmp u1]) (hx0 : tmps.getD u0 undef = x0) (hx1 : tmps.getD u1 undef = x1) :
    (results fn tmps).run P w = .ok (.tuple #[x0, x1]) w := by
  simp only [Array.getD_eq_getD_getElem?] at *
  simp [results, h, hx0, hx1]
theorem toSpot_any (x y : Int) (w : World) : Calls Tryz.prog 147 #[.agg #[.int .i8 x, .int .i8 y]] w fun e w' => e = .returned (.agg #[.int .i8 x, .int .i8 y]) ∧ Below w.heap.size w w' := by
  go_enter Tryz.func147, Tryz.ntmps147
  go_wp2
  refine bodyPost_ret (v := .agg #[.int .i8 x, .int .i8 y]) (res_c rfl rfl (by (go_simp <;> (intros; omega)))) rfl ⟨rfl, by repeat' (first | with_reducible exact Below.refl _ _ | with_reducible assumption | with_reducible refine Below.drew ?_ | with_reducible refine Below.drewN ?_ _ | with_reducible refine Below.alloc ?_ ?_ _ | with_reducible refine Below.setCell ?_ ?_ _ | with_reducible refine Below.setRow ?_ ?_ _ | with_reducible refine below_step (by assumption) ?_ ?_ | (show (_ : Nat) ≤ _; first | omega | (simp <;> omega)))⟩
end Go.Proofs.YtejnejplofddnaaGreatDoor
