/- Mixtures: what both searches reckon, round by round. No program. -/
import Derived.Test.YtkdfkhjoijfcdaaDoorBase
namespace Go.Proofs.YtkdfkhjoijfcdaaDoor
set_option linter.unusedVariables false
set_option linter.unusedSimpArgs false
set_option maxRecDepth 100000
/-- The size of a number. -/
def sz (n : Int) : Int := if n < 0 then -n else n
theorem sz_le {n b : Int} (h : -b ≤ n ∧ n ≤ b) : 0 ≤ sz n ∧ sz n ≤ b := by unfold sz; split <;> omega
/-- By how much a mixture is off. -/
def offM (x y z S p : Int) (a b : Nat) : Int := sz (a * S - x * p) + sz (b * S - y * p) + sz ((p - a - b) * S - z * p)
structure St where
  a : Int
  b : Int
  c : Int
  off : Int
def stepM (x y z S p : Int) (s : St) (a b : Nat) : St := if s.off < 0 ∨ offM x y z S p a b < s.off then ⟨a, b, p - a - b, offM x y z S p a b⟩ else s
def rowM (x y z S p : Int) (a : Nat) (s : St) : Nat → St
  | 0 => s
  | b + 1 => stepM x y z S p (rowM x y z S p a s b) a b
def allM (x y z S p : Int) : Nat → St
  | 0 => ⟨0, 0, 0, -1⟩
  | a + 1 => rowM x y z S p a (allM x y z S p a) (p + 1 - a).toNat
theorem mul_bd {a b A B : Int} (ha : 0 ≤ a ∧ a ≤ A) (hb : 0 ≤ b ∧ b ≤ B) : 0 ≤ a * b ∧ a * b ≤ A * B :=
  ⟨Int.mul_nonneg ha.1 hb.1, Int.mul_le_mul ha.2 hb.2 hb.1 (by omega)⟩
theorem offM_bd {x y z S p : Int} {a b : Nat} (hx : 0 ≤ x ∧ x ≤ 1000) (hy : 0 ≤ y ∧ y ≤ 1000) (hz : 0 ≤ z ∧ z ≤ 1000) (hS : 0 ≤ S ∧ S ≤ 3000) (hp : 1 ≤ p ∧ p ≤ 30) (h : (a : Int) + b ≤ p) : 0 ≤ offM x y z S p a b ∧ offM x y z S p a b ≤ 400000 := by
  have h1 := mul_bd (a := a) (A := 30) (by omega) hS
  have h2 := mul_bd (a := b) (A := 30) (by omega) hS
  have h3 := mul_bd (a := p - a - b) (A := 30) (by omega) hS
  have g1 := mul_bd hx (b := p) (B := 30) (by omega)
  have g2 := mul_bd hy (b := p) (B := 30) (by omega)
  have g3 := mul_bd hz (b := p) (B := 30) (by omega)
  have e1 := sz_le (n := a * S - x * p) (b := 90000) (by omega)
  have e2 := sz_le (n := b * S - y * p) (b := 90000) (by omega)
  have e3 := sz_le (n := (p - a - b) * S - z * p) (b := 90000) (by omega)
  unfold offM
  omega
/-- The state's last number stays small. -/
def SmallSt (s : St) : Prop := -1 ≤ s.off ∧ s.off ≤ 400000
theorem step_small {x y z S p : Int} {s : St} {a b : Nat} (hx : 0 ≤ x ∧ x ≤ 1000) (hy : 0 ≤ y ∧ y ≤ 1000) (hz : 0 ≤ z ∧ z ≤ 1000) (hS : 0 ≤ S ∧ S ≤ 3000) (hp : 1 ≤ p ∧ p ≤ 30) (h : (a : Int) + b ≤ p) (hs : SmallSt s) : SmallSt (stepM x y z S p s a b) := by
  have := offM_bd hx hy hz hS hp h
  unfold stepM
  split
  · exact ⟨by show -1 ≤ offM x y z S p a b; omega, this.2⟩
  · exact hs
end Go.Proofs.YtkdfkhjoijfcdaaDoor
