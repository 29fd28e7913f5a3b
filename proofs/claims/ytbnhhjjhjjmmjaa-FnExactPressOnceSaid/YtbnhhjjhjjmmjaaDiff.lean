/- By how much the dyes of two sheets differ: the reference. -/
import Derived.Test.YtbnhhjjhjjmmjaaWaterI
namespace Go.Proofs.Ytbnhhjjhjjmmjaa
open Go.RowKit
set_option linter.unusedVariables false
set_option linter.unusedSimpArgs false
set_option maxRecDepth 100000
def mag (n : Int) : Int := if -n < n then n else -n
theorem mag_in {n : Int} (h : -65535 ≤ n ∧ n ≤ 65535) : 0 ≤ mag n ∧ mag n ≤ 65535 := by unfold mag; split <;> omega
/-- The dyes of the k-th place. -/
def diffF (c d : Nat → Int) (k : Nat) : Int := mag (c (66 + k * 3) - d (66 + k * 3)) + mag (c (66 + k * 3 + 1) - d (66 + k * 3 + 1)) + mag (c (66 + k * 3 + 2) - d (66 + k * 3 + 2))
theorem diff_bound {c d : Nat → Int} (hc : FitSheet c) (hd : FitSheet d) (k : Nat) (hk : k < 64) : 0 ≤ diffF c d k ∧ diffF c d k ≤ 196605 := by
  have a0 := hc.cell (66 + k * 3) (by omega) (by omega)
  have a1 := hc.cell (66 + k * 3 + 1) (by omega) (by omega)
  have a2 := hc.cell (66 + k * 3 + 2) (by omega) (by omega)
  have b0 := hd.cell (66 + k * 3) (by omega) (by omega)
  have b1 := hd.cell (66 + k * 3 + 1) (by omega) (by omega)
  have b2 := hd.cell (66 + k * 3 + 2) (by omega) (by omega)
  have e0 := mag_in (n := c (66 + k * 3) - d (66 + k * 3)) (by omega)
  have e1 := mag_in (n := c (66 + k * 3 + 1) - d (66 + k * 3 + 1)) (by omega)
  have e2 := mag_in (n := c (66 + k * 3 + 2) - d (66 + k * 3 + 2)) (by omega)
  unfold diffF
  omega
theorem diff_sum {c d : Nat → Int} (hc : FitSheet c) (hd : FitSheet d) (n : Nat) (hn : n ≤ 64) : 0 ≤ sumTo (diffF c d) n ∧ sumTo (diffF c d) n ≤ 12582720 := by
  have := sumTo_in (diffF c d) 0 196605 n (fun k hk => diff_bound hc hd k (by omega))
  omega
theorem diff_at (c d : Nat → Int) (y x : Nat) : diffF c d (y * 8 + x) = mag (c (66 + y * 24 + x * 3) - d (66 + y * 24 + x * 3)) + mag (c (66 + y * 24 + x * 3 + 1) - d (66 + y * 24 + x * 3 + 1)) + mag (c (66 + y * 24 + x * 3 + 2) - d (66 + y * 24 + x * 3 + 2)) := by
  unfold diffF
  rw [show 66 + (y * 8 + x) * 3 = 66 + y * 24 + x * 3 by omega]
/-- A quiet call behind draws that the walk has joined. -/
theorem quiet_more {P : Program} {f : FuncId} {args : Array Value} {w : World} {a n : Nat} {v : Value} (h : Calls P f args (w.drewN (a + n)) fun e w' => e = .returned v ∧ w' = w.drewN (a + n)) :
    Calls P f args (w.drewN (a + n)) fun e w' => e = .returned v ∧ ∃ m, w' = w.drewN (a + m) := h.mono fun _ _ ⟨he, hm⟩ => ⟨he, n, hm⟩
theorem l00Max_q (a b : Int) (w : World) : Calls Try.prog 120 #[.int .i64 a, .int .i64 b] w fun e w' => e = .returned (.int .i64 (if b < a then a else b)) ∧ w' = w := by
  by_cases h : b < a
  all_goals
    go_enter Try.func120, Try.ntmps120
    go_wp2
    go_ret
    exact ⟨by simp [h], rfl⟩
theorem l01Size_m (n : Int) (h : -1000000000 ≤ n ∧ n ≤ 1000000000) (w : World) : Calls Try.prog 86 #[.int .i64 n] w fun e w' => e = .returned (.int .i64 (mag n)) ∧ w' = w := by
  have ⟨h1, h2⟩ := h
  go_enter Try.func86, Try.ntmps86
  go_wp2_with (go_at_call 120; refine (l00Max_q _ _ _).mono ?_; rintro e w1 ⟨rfl, rfl⟩)
  all_goals
    go_ret
    first | exact ⟨rfl, rfl⟩ | exact ⟨by simp [mag] <;> omega, rfl⟩
def DiffR (c d : Nat → Int) (w : World) (i s : Value) (wr : World) : Prop := ∃ y : Nat, y ≤ 8 ∧ i = .int .i64 y ∧ s = .int .i64 (sumTo (diffF c d) (y * 8)) ∧ Below w.heap.size w wr
def DiffC (c d : Nat → Int) (w : World) (y : Nat) (i s : Value) (wr : World) : Prop := ∃ x : Nat, x ≤ 8 ∧ i = .int .i64 x ∧ s = .int .i64 (sumTo (diffF c d) (y * 8 + x)) ∧ Below w.heap.size w wr
end Go.Proofs.Ytbnhhjjhjjmmjaa
