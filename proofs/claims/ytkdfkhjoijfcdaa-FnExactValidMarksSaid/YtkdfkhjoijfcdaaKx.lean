/- A row in which a sheet lies somewhere. Plain lemmas; no program. -/
import Derived.Test.YtkdfkhjoijfcdaaMem
namespace Go.Proofs.Ytkdfkhjoijfcdaa
open Go.RowKit
set_option linter.unusedSimpArgs false
set_option linter.unusedVariables false
/-- A row that holds a sheet from a place on. -/
def kx (R : Array Value) (o : Nat) (c : Nat → Int) : Array Value := mk (max R.size (o + 266)) fun j => if o ≤ j ∧ j < o + 266 then .int (sk (j - o)) (c (j - o)) else R.getD j undef
def kxX (R : Array Value) (o : Nat) (c : Nat → Int) (j : Nat) : Option Value := (kx R o c)[j]?
@[go_sem] theorem kx_size (R : Array Value) (o : Nat) (c : Nat → Int) : (kx R o c).size = max R.size (o + 266) := mk_size _ _
@[go_sem ↓] theorem kx_getA (R : Array Value) (o : Nat) (c : Nat → Int) (j : Nat) : (kx R o c)[j]? = selLe o j (selLt (j - o) 266 (some (.int (sk (j - o)) (c (j - o)))) (kxX R o c j)) (kxX R o c j) := by
  unfold selLe selLt
  split
  · split
    · unfold kx
      rw [mk_get _ _ _ (by omega), if_pos (by omega)]
    · rfl
  · rfl
theorem kx_self {R : Array Value} {o : Nat} {c : Nat → Int} (hs : o + 266 ≤ R.size) (hc : ∀ j, j < 266 → R[o + j]? = some (.int (sk j) (c j))) : R = kx R o c := by
  unfold kx
  refine mk_of_size _ _ (by omega) (fun j hj => ?_)
  split
  · have := hc (j - o) (by omega)
    rwa [show o + (j - o) = j by omega] at this
  · rw [Array.getD_eq_getD_getElem?, Array.getElem?_eq_getElem (by omega)]; rfl
@[go_sem] theorem kx_off0 (o : Nat) : o - o = 0 := Nat.sub_self o
@[go_sem] theorem kx_off1 (o a : Nat) : o + a - o = a := by omega
@[go_sem] theorem kx_off2 (o a b : Nat) : o + a + b - o = a + b := by omega
@[go_sem] theorem kx_off3 (o a b d : Nat) : o + a + b + d - o = a + b + d := by omega
@[go_sem] theorem kx_off4 (o a b d e : Nat) : o + a + b + d + e - o = a + b + d + e := by omega
end Go.Proofs.Ytkdfkhjoijfcdaa
