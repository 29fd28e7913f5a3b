/- Slices of spots: copied by the statements, cloned and turned round by the library. -/
import Derived.Test.YtkdfkhjoijfcdaaDoorSlS
import Derived.Test.YtkdfkhjoijfcdaaDoorAskBase
import Derived.Laws.MakeOwn
import Derived.Lib.SliceRun
namespace Go.Proofs.YtkdfkhjoijfcdaaDoor
open Go.RowKit
set_option linter.unusedVariables false
set_option linter.unusedSimpArgs false
set_option maxRecDepth 100000
/-- The numbers of a row of pairs turned round. -/
def rv (n : Nat) (f : Nat → Int) (j : Nat) : Int := f ((n - 1 - j / 2) * 2 + j % 2)
/-- One exchange more. -/
theorem swapped {n k m : Nat} {f : Nat → Int} {d : Array Value} {x1 y1 x2 y2 : Int} (hd : ∀ t e, t < n → e < 2 → d[t * 2 + e]? = some (.int .i8 (if t < k ∨ n < t + 1 + k then f ((n - 1 - t) * 2 + e) else f (t * 2 + e))))
    (hx1 : f (k * 2) = x1) (hy1 : f (k * 2 + 1) = y1) (hx2 : f (m * 2) = x2) (hy2 : f (m * 2 + 1) = y2) (hds : n * 2 ≤ d.size) (hkm : k < m) (hm : k + 1 + m = n) :
    ∀ t e, t < n → e < 2 → ((((d.setIfInBounds (k * 2) (.int .i8 x2)).setIfInBounds (k * 2 + 1) (.int .i8 y2)).setIfInBounds (m * 2) (.int .i8 x1)).setIfInBounds (m * 2 + 1) (.int .i8 y1))[t * 2 + e]? = some (.int .i8 (if t < k + 1 ∨ n < t + 1 + (k + 1) then f ((n - 1 - t) * 2 + e) else f (t * 2 + e))) := by
  intro t e ht he
  have h0 := hd t e ht he
  simp only [Array.getElem?_setIfInBounds, Array.size_setIfInBounds]
  by_cases q1 : m * 2 + 1 = t * 2 + e
  · obtain rfl : t = m := by omega
    obtain rfl : e = 1 := by omega
    rw [if_pos rfl, if_pos (by omega), if_pos (by omega), show n - 1 - t = k by omega, hy1]
  rw [if_neg q1]
  by_cases q2 : m * 2 = t * 2 + e
  · obtain rfl : t = m := by omega
    obtain rfl : e = 0 := by omega
    rw [if_pos (by omega), if_pos (by omega), if_pos (by omega), show n - 1 - t = k by omega, Nat.add_zero, hx1]
  rw [if_neg q2]
  by_cases q3 : k * 2 + 1 = t * 2 + e
  · obtain rfl : t = k := by omega
    obtain rfl : e = 1 := by omega
    rw [if_pos rfl, if_pos (by omega), if_pos (by omega), show n - 1 - t = m by omega, hy2]
  rw [if_neg q3]
  by_cases q4 : k * 2 = t * 2 + e
  · obtain rfl : t = k := by omega
    obtain rfl : e = 0 := by omega
    rw [if_pos (by omega), if_pos (by omega), if_pos (by omega), show n - 1 - t = m by omega, Nat.add_zero, hx2]
  rw [if_neg q4, h0]
  by_cases q5 : t < k ∨ n < t + 1 + k
  · rw [if_pos q5, if_pos (by omega)]
  · rw [if_neg q5, if_neg (by omega)]
/-- The first k pairs from behind. -/
def revL (f : Nat → Int) (n : Nat) : Nat → List Value
  | 0 => []
  | k + 1 => revL f n k ++ [.int .i8 (f ((n - 1 - k) * 2)), .int .i8 (f ((n - 1 - k) * 2 + 1))]
theorem revL_len (f : Nat → Int) (n k : Nat) : (revL f n k).length = k * 2 := by
  induction k with
  | zero => rfl
  | succ k ih => show (revL f n k ++ _).length = _; rw [List.length_append, ih, Nat.succ_mul]; rfl
theorem revL_get (f : Nat → Int) (n k j : Nat) (h : j < k * 2) : (revL f n k)[j]? = some (.int .i8 (rv n f j)) := by
  induction k with
  | zero => omega
  | succ k ih =>
    show (revL f n k ++ _)[j]? = _
    by_cases hj : j < k * 2
    · rw [List.getElem?_append_left (by rw [revL_len]; exact hj)]; exact ih hj
    · rw [List.getElem?_append_right (by rw [revL_len]; omega), revL_len]
      unfold rv
      by_cases q : j = k * 2
      · subst q
        rw [Nat.sub_self, show k * 2 / 2 = k by omega, show k * 2 % 2 = 0 by omega]; rfl
      · have q : j = k * 2 + 1 := by omega
        subst q
        rw [show k * 2 + 1 - k * 2 = 1 by omega, show (k * 2 + 1) / 2 = k by omega, show (k * 2 + 1) % 2 = 1 by omega]; rfl
end Go.Proofs.YtkdfkhjoijfcdaaDoor
