/- The cells of a sheet: whether it has one, its wax, water and dye, in both. -/
import Derived.Test.YtejnejplofddnaaGreatDoorShapes
import Derived.Test.YtejnejplofddnaaGreatDoorPic
import Derived.Test.YtejnejplofddnaaGreatDoorHeld
import Derived.Lib.Hide
import Derived.RegionTactic
namespace Go.Proofs.YtejnejplofddnaaGreatDoor
open Go.RowKit
set_option linter.unusedVariables false
set_option linter.unusedSimpArgs false
set_option maxRecDepth 100000

set_option maxHeartbeats 1000000 in
theorem has_any (p : Nat) (c : Nat → Int) (hf : FitSheet c) (x y : Int) (hx : -128 ≤ x ∧ x ≤ 127) (hy : -128 ≤ y ∧ y ≤ 127) (w : World) (hr : rowOf w p = kc sk 266 c) (hp : p < w.heap.size) :
    Calls Tryz.prog 99 #[.pointer (some ⟨p, 0, none⟩), .agg #[.int .i8 x, .int .i8 y]] w fun e w' => e = .returned (.bool (isP c x y)) ∧ Below w.heap.size w w' := by
  have h0 := hf.side 0 (by omega)
  have h1 := hf.side 1 (by omega)
  by_cases hx0 : 0 ≤ x
  case neg =>
    have hd : decide (0 ≤ x) = false := decide_eq_false hx0
    go_enter Tryz.func99, Tryz.ntmps99
    go_wp2
    go_quiet (fail)
    go_wp2
    go_ret
    exact ⟨by simp [isP, inB]; omega, by repeat' (first | with_reducible exact Below.refl _ _ | with_reducible assumption | with_reducible refine Below.drew ?_ | with_reducible refine Below.drewN ?_ _ | with_reducible refine Below.alloc ?_ ?_ _ | with_reducible refine Below.setCell ?_ ?_ _ | with_reducible refine Below.setRow ?_ ?_ _ | with_reducible refine below_step (by assumption) ?_ ?_ | (show (_ : Nat) ≤ _; first | omega | (simp <;> omega)))⟩
  by_cases hx1 : x < c 0
  case neg =>
    have hd : decide (x < c 0) = false := decide_eq_false hx1
    go_enter Tryz.func99, Tryz.ntmps99
    go_wp2
    go_quiet (fail)
    go_wp2
    go_ret
    exact ⟨by simp [isP, inB]; omega, by repeat' (first | with_reducible exact Below.refl _ _ | with_reducible assumption | with_reducible refine Below.drew ?_ | with_reducible refine Below.drewN ?_ _ | with_reducible refine Below.alloc ?_ ?_ _ | with_reducible refine Below.setCell ?_ ?_ _ | with_reducible refine Below.setRow ?_ ?_ _ | with_reducible refine below_step (by assumption) ?_ ?_ | (show (_ : Nat) ≤ _; first | omega | (simp <;> omega)))⟩
  by_cases hy0 : 0 ≤ y
  case neg =>
    have hd : decide (0 ≤ y) = false := decide_eq_false hy0
    go_enter Tryz.func99, Tryz.ntmps99
    go_wp2
    go_quiet (fail)
    go_wp2
    go_ret
    exact ⟨by simp [isP, inB]; omega, by repeat' (first | with_reducible exact Below.refl _ _ | with_reducible assumption | with_reducible refine Below.drew ?_ | with_reducible refine Below.drewN ?_ _ | with_reducible refine Below.alloc ?_ ?_ _ | with_reducible refine Below.setCell ?_ ?_ _ | with_reducible refine Below.setRow ?_ ?_ _ | with_reducible refine below_step (by assumption) ?_ ?_ | (show (_ : Nat) ≤ _; first | omega | (simp <;> omega)))⟩
  by_cases hy1 : y < c 1
  case neg =>
    have hd : decide (y < c 1) = false := decide_eq_false hy1
    go_enter Tryz.func99, Tryz.ntmps99
    go_wp2
    go_quiet (fail)
    go_wp2
    go_ret
    exact ⟨by simp [isP, inB]; omega, by repeat' (first | with_reducible exact Below.refl _ _ | with_reducible assumption | with_reducible refine Below.drew ?_ | with_reducible refine Below.drewN ?_ _ | with_reducible refine Below.alloc ?_ ?_ _ | with_reducible refine Below.setCell ?_ ?_ _ | with_reducible refine Below.setRow ?_ ?_ _ | with_reducible refine below_step (by assumption) ?_ ?_ | (show (_ : Nat) ≤ _; first | omega | (simp <;> omega)))⟩
  go_enter Tryz.func99, Tryz.ntmps99
  go_wp2
  go_quiet (fail)
  go_wp2
  go_ret
  exact ⟨by simp [isP, inB]; omega, by repeat' (first | with_reducible exact Below.refl _ _ | with_reducible assumption | with_reducible refine Below.drew ?_ | with_reducible refine Below.drewN ?_ _ | with_reducible refine Below.alloc ?_ ?_ _ | with_reducible refine Below.setCell ?_ ?_ _ | with_reducible refine Below.setRow ?_ ?_ _ | with_reducible refine below_step (by assumption) ?_ ?_ | (show (_ : Nat) ≤ _; first | omega | (simp <;> omega)))⟩
/-- A cell is waxed: a bit of the row's number. -/
def waxS (c : Nat → Int) (x y : Nat) : Bool := bits BinOp.and IntKind.u8 (c (258 + y) / 2 ^ x) 1 == 1
/-- The three dyes of a cell, and their sum. -/
abbrev dyeV (c : Nat → Int) (x y : Nat) : Value := .agg #[.int .i16 (c (66 + y * 24 + x * 3)), .int .i16 (c (66 + y * 24 + x * 3 + 1)), .int .i16 (c (66 + y * 24 + x * 3 + 2))]
def darkS (c : Nat → Int) (x y : Nat) : Int := c (66 + y * 24 + x * 3) + c (66 + y * 24 + x * 3 + 1) + c (66 + y * 24 + x * 3 + 2)
set_option maxHeartbeats 1000000 in
theorem l01Waxed_any (p : Nat) (c : Nat → Int) (hf : FitSheet c) (x y : Nat) (hx : x < 8) (hy : y < 8) (w : World) (hr : rowOf w p = kc sk 266 c) (hp : p < w.heap.size) :
    Calls Tryz.prog 74 #[.pointer (some ⟨p, 0, none⟩), .agg #[.int .i8 x, .int .i8 y]] w fun e w' => e = .returned (.bool (waxS c x y)) ∧ Below w.heap.size w w' := by
  go_enter Tryz.func74, Tryz.ntmps74
  go_wp2
  go_quiet (fail)
  go_wp2
  go_ret
  exact ⟨rfl, by repeat' (first | with_reducible exact Below.refl _ _ | with_reducible assumption | with_reducible refine Below.drew ?_ | with_reducible refine Below.drewN ?_ _ | with_reducible refine Below.alloc ?_ ?_ _ | with_reducible refine Below.setCell ?_ ?_ _ | with_reducible refine Below.setRow ?_ ?_ _ | with_reducible refine below_step (by assumption) ?_ ?_ | (show (_ : Nat) ≤ _; first | omega | (simp <;> omega)))⟩
set_option maxHeartbeats 1000000 in
theorem waxed_any (p : Nat) (c : Nat → Int) (hf : FitSheet c) (x y : Nat) (hx : x < 8) (hy : y < 8) (w : World) (hr : rowOf w p = kc sk 266 c) (hp : p < w.heap.size) :
    Calls Tryz.prog 61 #[.pointer (some ⟨p, 0, none⟩), .agg #[.int .i8 x, .int .i8 y]] w fun e w' => e = .returned (.bool (waxS c x y)) ∧ Below w.heap.size w w' := by
  go_enter Tryz.func61, Tryz.ntmps61
  go_wp2
  go_quiet (fail)
  go_wp2
  go_ret
  exact ⟨rfl, by repeat' (first | with_reducible exact Below.refl _ _ | with_reducible assumption | with_reducible refine Below.drew ?_ | with_reducible refine Below.drewN ?_ _ | with_reducible refine Below.alloc ?_ ?_ _ | with_reducible refine Below.setCell ?_ ?_ _ | with_reducible refine Below.setRow ?_ ?_ _ | with_reducible refine below_step (by assumption) ?_ ?_ | (show (_ : Nat) ≤ _; first | omega | (simp <;> omega)))⟩
set_option maxHeartbeats 1000000 in
theorem wet_any (p : Nat) (c : Nat → Int) (hf : FitSheet c) (x y : Nat) (hx : x < 8) (hy : y < 8) (w : World) (hr : rowOf w p = kc sk 266 c) (hp : p < w.heap.size) :
    Calls Tryz.prog 100 #[.pointer (some ⟨p, 0, none⟩), .agg #[.int .i8 x, .int .i8 y]] w fun e w' => e = .returned (.int .i64 (c (2 + y * 8 + x))) ∧ Below w.heap.size w w' := by
  have hc0 := hf.cell (2 + y * 8 + x) (by omega) (by omega)
  go_enter Tryz.func100, Tryz.ntmps100
  go_wp2
  go_quiet (fail)
  go_wp2
  go_ret
  exact ⟨rfl, by repeat' (first | with_reducible exact Below.refl _ _ | with_reducible assumption | with_reducible refine Below.drew ?_ | with_reducible refine Below.drewN ?_ _ | with_reducible refine Below.alloc ?_ ?_ _ | with_reducible refine Below.setCell ?_ ?_ _ | with_reducible refine Below.setRow ?_ ?_ _ | with_reducible refine below_step (by assumption) ?_ ?_ | (show (_ : Nat) ≤ _; first | omega | (simp <;> omega)))⟩
set_option maxHeartbeats 1000000 in
theorem dye_any (p : Nat) (c : Nat → Int) (hf : FitSheet c) (x y : Nat) (hx : x < 8) (hy : y < 8) (w : World) (hr : rowOf w p = kc sk 266 c) (hp : p < w.heap.size) :
    Calls Tryz.prog 101 #[.pointer (some ⟨p, 0, none⟩), .agg #[.int .i8 x, .int .i8 y]] w fun e w' => e = .returned (dyeV c x y) ∧ Below w.heap.size w w' := by
  go_enter Tryz.func101, Tryz.ntmps101
  have hc0 := hf.cell
  go_wp2
  go_region
  all_goals
    go_wp2
    refine bodyPost_ret (v := dyeV c x y) (res_c rfl rfl (by (go_simp <;> (intros; omega)))) rfl ⟨rfl, by repeat' (first | with_reducible exact Below.refl _ _ | with_reducible assumption | with_reducible refine Below.drew ?_ | with_reducible refine Below.drewN ?_ _ | with_reducible refine Below.alloc ?_ ?_ _ | with_reducible refine Below.setCell ?_ ?_ _ | with_reducible refine Below.setRow ?_ ?_ _ | with_reducible refine below_step (by assumption) ?_ ?_ | (show (_ : Nat) ≤ _; first | omega | (simp <;> omega)))⟩
set_option maxHeartbeats 1000000 in
theorem l01Is_any (p : Nat) (c : Nat → Int) (hf : FitSheet c) (x y : Int) (hx : -128 ≤ x ∧ x ≤ 127) (hy : -128 ≤ y ∧ y ≤ 127) (w : World) (hr : rowOf w p = kc sk 266 c) (hp : p < w.heap.size) :
    Calls Tryz.prog 129 #[.pointer (some ⟨p, 0, none⟩), .agg #[.int .i8 x, .int .i8 y]] w fun e w' => e = .returned (.bool (isP c x y)) ∧ Below w.heap.size w w' := by
  have h0 := hf.side 0 (by omega)
  have h1 := hf.side 1 (by omega)
  have hq0 : IntKind.i64.wrap (x) = x := IntWalk.i64_in _ (by omega); have hq1 : IntKind.i64.wrap (y) = y := IntWalk.i64_in _ (by omega); have hq2 : IntKind.i64.wrap (c 0) = c 0 := IntWalk.i64_in _ (by omega); have hq3 : IntKind.i64.wrap (c 1) = c 1 := IntWalk.i64_in _ (by omega); have hq4 : IntKind.i64.wrap (c 0 - 1) = c 0 - 1 := IntWalk.i64_in _ (by omega); have hq5 : IntKind.i64.wrap (c 1 - 1) = c 1 - 1 := IntWalk.i64_in _ (by omega)
  have hc0 := fun w => l00In_q x 0 (c 0 - 1) w
  generalize hb : inB x 0 (c 0 - 1) = b at hc0
  have HB := Lib.hid hb
  clear hb
  cases b
  all_goals
    go_enter Tryz.func129, Tryz.ntmps129
    go_wp2
    go_quiet ((go_at_call 72; first | with_reducible exact Calls.quiet_of_same (hc0 _) | exact Calls.quiet_of_same (l00In_q _ _ _ _)))
    go_wp2
    go_ret
    exact ⟨by simp [isP, HB.out], by repeat' (first | with_reducible exact Below.refl _ _ | with_reducible assumption | with_reducible refine Below.drew ?_ | with_reducible refine Below.drewN ?_ _ | with_reducible refine Below.alloc ?_ ?_ _ | with_reducible refine Below.setCell ?_ ?_ _ | with_reducible refine Below.setRow ?_ ?_ _ | with_reducible refine below_step (by assumption) ?_ ?_ | (show (_ : Nat) ≤ _; first | omega | (simp <;> omega)))⟩
end Go.Proofs.YtejnejplofddnaaGreatDoor
