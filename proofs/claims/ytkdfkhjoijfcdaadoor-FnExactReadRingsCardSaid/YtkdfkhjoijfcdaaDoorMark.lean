/- The text of a mark: the program and the reference. -/
import Derived.Test.YtkdfkhjoijfcdaaDoorTxt
import Derived.Test.YtkdfkhjoijfcdaaDoorSpotS
import Derived.BigQuiet
import Derived.Deep.QuietTactic
namespace Go.Proofs.YtkdfkhjoijfcdaaDoor
open Go.RowKit
set_option linter.unusedVariables false
set_option linter.unusedSimpArgs false
set_option maxRecDepth 100000
/-- The bytes of so many cells. -/
def cellsTx (f : Nat → Int) : Nat → List UInt8
  | 0 => []
  | k + 1 => cellsTx f k ++ ([32] ++ [by8 (48 + f (k * 2))] ++ [44] ++ [by8 (48 + f (k * 2 + 1))])
theorem cellsTx_len (f : Nat → Int) : ∀ k, (cellsTx f k).length = 4 * k
  | 0 => rfl
  | k + 1 => by
    have := cellsTx_len f k
    show (cellsTx f k ++ _).length = _
    rw [List.length_append, this]; simp; omega
def CellsTo (f : Nat → Int) (k : Nat) : Prop := ∀ i, i < k → (0 ≤ f (i * 2) ∧ f (i * 2) ≤ 7) ∧ 0 ≤ f (i * 2 + 1) ∧ f (i * 2 + 1) ≤ 7
open Classical in
noncomputable def cells8 (f : Nat → Int) (n : Nat) : Bool := decide (CellsTo f n)
open Classical in
theorem cells8_yes {f : Nat → Int} {n : Nat} (h : CellsTo f n) : cells8 f n = true := decide_eq_true h
open Classical in
theorem cells8_no {f : Nat → Int} {n k : Nat} (hk : k < n) (h : ¬ ((0 ≤ f (k * 2) ∧ f (k * 2) ≤ 7) ∧ 0 ≤ f (k * 2 + 1) ∧ f (k * 2 + 1) ≤ 7)) : cells8 f n = false := decide_eq_false (fun g => h (g k hk))
open Classical in
theorem cells8_to {f : Nat → Int} {n : Nat} (h : cells8 f n = true) : CellsTo f n := by unfold cells8 at h; exact of_decide_eq_true h
theorem cells8_next {f : Nat → Int} {k : Nat} (h : CellsTo f k) (g : (0 ≤ f (k * 2) ∧ f (k * 2) ≤ 7) ∧ 0 ≤ f (k * 2 + 1) ∧ f (k * 2 + 1) ≤ 7) : CellsTo f (k + 1) := fun i h1 => by
  rcases Nat.lt_succ_iff_lt_or_eq.1 h1 with h2 | rfl
  · exact h i h2
  · exact g
noncomputable def markB (col : Int) (f : Nat → Int) (n : Nat) : Bool := inB col 0 2 && inB (n : Int) 1 64 && cells8 f n
noncomputable def markTx (col : Int) (f : Nat → Int) (n : Nat) : List UInt8 := if markB col f n = true then [by8 (97 + col)] ++ cellsTx f n else []
theorem markTx_no {col : Int} {f : Nat → Int} {n : Nat} (h : markB col f n = false) : markTx col f n = [] := if_neg (by simp [h])
theorem markTx_yes {col : Int} {f : Nat → Int} {n : Nat} (h : markB col f n = true) : markTx col f n = [by8 (97 + col)] ++ cellsTx f n := if_pos h
theorem three {a : Int} (h : inB a 0 2 = true) : a = 0 ∨ a = 1 ∨ a = 2 := by have := inB_true.1 h; omega
@[go_sem] theorem tc_abc (i : Int) (w : World) : (Instr.index 9 (.string (ByteArray.mk #[97, 98, 99])) (.int .i8 i)).run Tryd.prog w = (Instr.index 9 (.string (tx [97, 98, 99])) (.int .i8 i)).run Tryd.prog w := rfl
theorem by_97 : by8 (97 + 0) = 97 := by decide
theorem by_98 : by8 (97 + 1) = 98 := by decide
theorem by_99 : by8 (97 + 2) = 99 := by decide
end Go.Proofs.YtkdfkhjoijfcdaaDoor
