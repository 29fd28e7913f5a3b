/- Cells of a picture: the numbers. No program. -/
import Derived.Test.YtkdfkhjoijfcdaaDoorWaterI
import Derived.Test.YtkdfkhjoijfcdaaDoorPic
namespace Go.Proofs.YtkdfkhjoijfcdaaDoor
open Go.RowKit
set_option linter.unusedVariables false
set_option linter.unusedSimpArgs false
set_option maxRecDepth 100000
/-- What the k-th cell of a picture so wide shows. -/
abbrev pF (c : Nat → Int) (W k : Nat) : Int := c (2 + k / W * 8 + k % W)
/-- How many of the first n cells show m. -/
def cnt (c : Nat → Int) (W : Nat) (m : Int) (n : Nat) : Int := sumTo (fun k => if pF c W k = m then 1 else 0) n
theorem cnt_zero (c : Nat → Int) (W : Nat) (m : Int) : cnt c W m 0 = 0 := rfl
theorem cnt_yes {c : Nat → Int} {W : Nat} {m : Int} {n : Nat} (h : pF c W n = m) : cnt c W m (n + 1) = cnt c W m n + 1 := by
  show sumTo _ n + (if pF c W n = m then 1 else 0) = _
  rw [if_pos h]; rfl
theorem cnt_no {c : Nat → Int} {W : Nat} {m : Int} {n : Nat} (h : pF c W n ≠ m) : cnt c W m (n + 1) = cnt c W m n := by
  show sumTo _ n + (if pF c W n = m then 1 else 0) = _
  rw [if_neg h, Int.add_zero]; rfl
theorem cnt_in (c : Nat → Int) (W : Nat) (m : Int) (n : Nat) : 0 ≤ cnt c W m n ∧ cnt c W m n ≤ n := by
  have := sumTo_in (fun k => if pF c W k = m then 1 else 0) 0 1 n (fun k _ => by show 0 ≤ (if _ then (1 : Int) else 0) ∧ (if _ then (1 : Int) else 0) ≤ 1; split <;> omega)
  unfold cnt; omega
theorem okP_is {c : Nat → Int} (h : okP c = true) : OkP c := by simpa [okP] using h
theorem okP_sides {c : Nat → Int} (h : okP c = true) : ∃ W H : Nat, c 0 = W ∧ c 1 = H ∧ 0 < W ∧ 0 < H ∧ W ≤ 8 ∧ H ≤ 8 := by
  have ⟨h0, h1, _⟩ := okP_is h
  exact ⟨(c 0).toNat, (c 1).toNat, by omega, by omega, by omega, by omega, by omega, by omega⟩
theorem okP_cell {c : Nat → Int} (h : okP c = true) {x y : Nat} (hx : x < 8) (hy : y < 8) : c (2 + y * 8 + x) ≤ 3 := ((okP_is h).2.2 y hy x hx).1
/-- All that a walk over the cells needs of the k-th one. -/
theorem cell_at {W H k : Nat} (W0 : 0 < W) (W8 : W ≤ 8) (H8 : H ≤ 8) (hk : k < H * W) : k % W < 8 ∧ k / W < 8 ∧ k % W < W ∧ k / W < H := by
  have h1 := Nat.mod_lt k W0
  have h2 : k / W < H := (Nat.div_lt_iff_lt_mul W0).2 hk
  omega
end Go.Proofs.YtkdfkhjoijfcdaaDoor
