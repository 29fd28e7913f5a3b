/- The water of a sheet, in both. -/
import Derived.Test.YtejnejplofddnaaGreatDoorSums
import Derived.Test.YtejnejplofddnaaGreatDoorAskBase
namespace Go.Proofs.YtejnejplofddnaaGreatDoor
open Go.RowKit
set_option linter.unusedVariables false
set_option linter.unusedSimpArgs false
set_option maxRecDepth 100000
abbrev wetF (c : Nat → Int) : Nat → Int := fun k => c (2 + k)
theorem wet_bound {c : Nat → Int} (hf : FitSheet c) (n : Nat) (hn : n ≤ 64) : -2097152 ≤ sumTo (wetF c) n ∧ sumTo (wetF c) n ≤ 2097152 := by
  have := sumTo_in (wetF c) (-32768) 32767 n (fun k hk => hf.cell (2 + k) (by omega) (by omega))
  omega
def SumR (c : Nat → Int) (w : World) (i s : Value) (wr : World) : Prop := ∃ y : Nat, y ≤ 8 ∧ i = .int .i64 y ∧ s = .int .i64 (sumTo (wetF c) (y * 8)) ∧ Below w.heap.size w wr
def SumC (c : Nat → Int) (w : World) (y : Nat) (i s : Value) (wr : World) : Prop := ∃ x : Nat, x ≤ 8 ∧ i = .int .i64 x ∧ s = .int .i64 (sumTo (wetF c) (y * 8 + x)) ∧ Below w.heap.size w wr
end Go.Proofs.YtejnejplofddnaaGreatDoor
