/- Whether a picture is valid: the program and the reference say alike. -/
import Derived.Test.YtejnejplofddnaaGreatDoorShapes
import Derived.Lib.Hide
namespace Go.Proofs.YtejnejplofddnaaGreatDoor
open Go.RowKit
set_option linter.unusedVariables false
set_option linter.unusedSimpArgs false
set_option maxRecDepth 100000

/-- A place of a picture is as it has to be. -/
def CellP (c : Nat → Int) (y x : Nat) : Prop := c (2 + y * 8 + x) ≤ 3 ∧ (0 < c (2 + y * 8 + x) → (x : Int) < c 0 ∧ (y : Int) < c 1)
def OkP (c : Nat → Int) : Prop := (1 ≤ c 0 ∧ c 0 ≤ 8) ∧ (1 ≤ c 1 ∧ c 1 ≤ 8) ∧ ∀ y, y < 8 → ∀ x, x < 8 → CellP c y x
open Classical in
noncomputable def okP (c : Nat → Int) : Bool := decide (OkP c)
theorem okP_true {c : Nat → Int} (h : OkP c) : true = okP c := by simp [okP, h]
theorem okP_false {c : Nat → Int} (h : ¬ OkP c) : false = okP c := by simp [okP, h]
/-- A picture has a place. -/
def isP (c : Nat → Int) (x y : Int) : Bool := inB x 0 (c 0 - 1) && inB y 0 (c 1 - 1)

theorem l00In_q (n lo hi : Int) (w : World) : Calls Tryz.prog 72 #[.int .i64 n, .int .i64 lo, .int .i64 hi] w fun e w' => e = .returned (.bool (inB n lo hi)) ∧ w' = w :=
  (l00In_any n lo hi w).mono fun _ _ h => ⟨h.1, h.2.symm⟩
/-- What is known at the head of a round over rows, over the cells of a row. -/
def RowsP (c : Nat → Int) (w : World) (i : Value) (wr : World) : Prop := ∃ y : Nat, y ≤ 8 ∧ i = .int .i8 y ∧ Below w.heap.size w wr ∧ ∀ y', y' < y → ∀ x, x < 8 → CellP c y' x
def CellsP (c : Nat → Int) (w : World) (y : Nat) (i : Value) (wr : World) : Prop := ∃ x : Nat, x ≤ 8 ∧ i = .int .i8 x ∧ Below w.heap.size w wr ∧ ∀ x', x' < x → CellP c y x'
theorem cells_next {c : Nat → Int} {y x : Nat} (h : ∀ x', x' < x → CellP c y x') (g : CellP c y x) : ∀ x', x' < x + 1 → CellP c y x' := fun x' hx' => by
  rcases Nat.lt_succ_iff_lt_or_eq.1 hx' with h' | rfl
  · exact h x' h'
  · exact g
theorem rows_next {c : Nat → Int} {y : Nat} (h : ∀ y', y' < y → ∀ x, x < 8 → CellP c y' x) (g : ∀ x, x < 8 → CellP c y x) : ∀ y', y' < y + 1 → ∀ x, x < 8 → CellP c y' x := fun y' hy' => by
  rcases Nat.lt_succ_iff_lt_or_eq.1 hy' with h' | rfl
  · exact h y' h'
  · exact g
theorem isP_true {c : Nat → Int} {x y : Nat} : isP c x y = true ↔ (x : Int) < c 0 ∧ (y : Int) < c 1 := by
  simp only [isP, Bool.and_eq_true, inB_true]; omega
theorem isP_false {c : Nat → Int} {x y : Nat} (h : isP c x y = false) : ¬ ((x : Int) < c 0 ∧ (y : Int) < c 1) := fun g => by
  rw [isP_true.2 g] at h; cases h

/-- The same, with the call's own box: 'b' holds the picture. -/
def RowsI (c : Nat → Int) (w : World) (i : Value) (wr : World) : Prop := ∃ y : Nat, y ≤ 8 ∧ i = .int .i64 y ∧ Below w.heap.size w wr ∧ w.heap.size + 1 ≤ wr.heap.size ∧ rowOf wr w.heap.size = kc pk 66 c ∧ ∀ y', y' < y → ∀ x, x < 8 → CellP c y' x
def CellsI (c : Nat → Int) (w : World) (y : Nat) (i : Value) (wr : World) : Prop := ∃ x : Nat, x ≤ 8 ∧ i = .int .i64 x ∧ Below w.heap.size w wr ∧ w.heap.size + 1 ≤ wr.heap.size ∧ rowOf wr w.heap.size = kc pk 66 c ∧ ∀ x', x' < x → CellP c y x'
end Go.Proofs.YtejnejplofddnaaGreatDoor
