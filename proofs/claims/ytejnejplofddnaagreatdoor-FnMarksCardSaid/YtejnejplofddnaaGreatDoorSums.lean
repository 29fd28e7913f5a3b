/- Sums over all places of a sheet, and over its cells alone. No program. -/
import Derived.Test.YtejnejplofddnaaGreatDoorCells
import Derived.Test.YtejnejplofddnaaGreatDoorSheetOk
namespace Go.Proofs.YtejnejplofddnaaGreatDoor
set_option linter.unusedVariables false
set_option linter.unusedSimpArgs false
set_option maxRecDepth 100000
def sumTo (f : Nat → Int) : Nat → Int
  | 0 => 0
  | n + 1 => sumTo f n + f n
theorem sumTo_in (f : Nat → Int) (lo hi : Int) (n : Nat) (h : ∀ k, k < n → lo ≤ f k ∧ f k ≤ hi) : lo * n ≤ sumTo f n ∧ sumTo f n ≤ hi * n := by
  induction n with
  | zero => simp [sumTo]
  | succ n ih =>
    have h1 := ih (fun k hk => h k (by omega))
    have h2 := h n (by omega)
    have e1 : lo * ((n + 1 : Nat) : Int) = lo * n + lo := by rw [Int.natCast_succ, Int.mul_add, Int.mul_one]
    have e2 : hi * ((n + 1 : Nat) : Int) = hi * n + hi := by rw [Int.natCast_succ, Int.mul_add, Int.mul_one]
    rw [e1, e2]
    show lo * n + lo ≤ sumTo f n + f n ∧ sumTo f n + f n ≤ hi * n + hi
    omega
/-- The place of the k-th cell of a sheet so wide. -/
def place (W k : Nat) : Nat := k / W * 8 + k % W
theorem place_at {W x : Nat} (y : Nat) (h : x < W) : place W (y * W + x) = y * 8 + x := by
  unfold place
  rw [Nat.add_comm (y * W), Nat.add_mul_div_right _ _ (by omega), Nat.div_eq_of_lt h, Nat.zero_add, Nat.add_mul_mod_self_right, Nat.mod_eq_of_lt h]
theorem sum_row (f : Nat → Int) (W y : Nat) (a b : Int) (h0 : sumTo f (y * 8) = sumTo (fun k => f (place W k)) (y * W)) (x : Nat) (hx : x ≤ W) : sumTo f (y * 8 + x) = sumTo (fun k => f (place W k)) (y * W + x) := by
  induction x with
  | zero => exact h0
  | succ x ih =>
    have := ih (by omega)
    show sumTo f (y * 8 + x) + f (y * 8 + x) = sumTo (fun k => f (place W k)) (y * W + x) + f (place W (y * W + x))
    rw [this, place_at y (by omega)]
theorem sum_rest (f : Nat → Int) (W y : Nat) (hz : ∀ x, W ≤ x → x < 8 → f (y * 8 + x) = 0) (x : Nat) (hW : W ≤ x) (hx : x ≤ 8) : sumTo f (y * 8 + x) = sumTo f (y * 8 + W) := by
  induction x with
  | zero => have : W = 0 := by omega
            subst this; rfl
  | succ x ih =>
    by_cases hwx : W ≤ x
    · show sumTo f (y * 8 + x) + f (y * 8 + x) = _
      rw [ih hwx (by omega), hz x hwx (by omega), Int.add_zero]
    · have : W = x + 1 := by omega
      rw [this]
theorem sum_rows (f : Nat → Int) (W H : Nat) (hW : W ≤ 8) (hz : ∀ y x, x < 8 → y < 8 → (W ≤ x ∨ H ≤ y) → f (y * 8 + x) = 0) (y : Nat) (hy : y ≤ H) (hH : H ≤ 8) : sumTo f (y * 8) = sumTo (fun k => f (place W k)) (y * W) := by
  induction y with
  | zero => simp [sumTo]
  | succ y ih =>
    have h1 := sum_row f W y 0 0 (ih (by omega)) W (Nat.le_refl _)
    have h2 := sum_rest f W y (fun x h g => hz y x g (by omega) (.inl h)) 8 hW (Nat.le_refl _)
    rw [Nat.succ_mul, h2, h1, Nat.succ_mul]
theorem sum_zero (f : Nat → Int) (m n : Nat) (h : ∀ k, m ≤ k → k < m + n → f k = 0) : sumTo f (m + n) = sumTo f m := by
  induction n with
  | zero => rfl
  | succ n ih =>
    show sumTo f (m + n) + f (m + n) = _
    rw [ih (fun k a b => h k a (by omega)), h (m + n) (by omega) (by omega), Int.add_zero]
theorem sum_all (f : Nat → Int) (W H : Nat) (hW : W ≤ 8) (hH : H ≤ 8) (hz : ∀ y x, x < 8 → y < 8 → (W ≤ x ∨ H ≤ y) → f (y * 8 + x) = 0) : sumTo f 64 = sumTo (fun k => f (place W k)) (H * W) := by
  have h1 := sum_rows f W H hW hz H (Nat.le_refl _) hH
  have h2 := sum_zero f (H * 8) (64 - H * 8) (fun k a b => by
    have := hz (k / 8) (k % 8) (Nat.mod_lt _ (by omega)) (by omega) (.inr (by omega))
    rwa [show k / 8 * 8 + k % 8 = k by omega] at this)
  rw [show H * 8 + (64 - H * 8) = 64 by omega] at h2
  rw [h2, h1]
/-- Outside of a valid sheet there is neither water nor dye. -/
theorem out_wet {c : Nat → Int} (h : OkS c) {y x : Nat} (hx : x < 8) (hy : y < 8) (ho : c 0 ≤ x ∨ c 1 ≤ y) : c (2 + y * 8 + x) = 0 ∧ c (66 + y * 24 + x * 3) = 0 ∧ c (66 + y * 24 + x * 3 + 1) = 0 ∧ c (66 + y * 24 + x * 3 + 2) = 0 := by
  have ⟨_, g1, g2, g3, g4, g5⟩ := h.2.2 y hy x hx
  have hn : isP c x y = false := by
    cases hq : isP c x y
    · rfl
    · have := isP_true.1 hq; omega
  simp only [hn] at g5
  rcases g5 with g5 | ⟨g5, _⟩
  · omega
  · cases g5
end Go.Proofs.YtejnejplofddnaaGreatDoor
