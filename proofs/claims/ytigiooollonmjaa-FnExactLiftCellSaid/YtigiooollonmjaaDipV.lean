/- Dipping a brush. Written by gen_dip.py. -/
import Derived.Test.YtigiooollonmjaaBrush
import Derived.Test.YtigiooollonmjaaEq
import Derived.Test.YtigiooollonmjaaAskBase
namespace Go.Proofs.Ytigiooollonmjaa
open Go.RowKit
set_option linter.unusedVariables false
set_option linter.unusedSimpArgs false
set_option maxRecDepth 100000
def dipD (k i n d : Int) : Int := if k = i then d + n else d
def dipV (a b c wt sh k n m : Int) : Value :=
  if okBrush a b c wt sh = true then
    if inB k 0 2 = true ∧ inB n 0 900 = true ∧ inB m 0 200 = true then
      if okBrush (dipD k 0 n a) (dipD k 1 n b) (dipD k 2 n c) (wt + m) sh = true then .tuple #[.agg (brush (dipD k 0 n a) (dipD k 1 n b) (dipD k 2 n c) (wt + m) sh), .int .i64 0] else .tuple #[.agg (brush 0 0 0 0 0), .int .i64 3]
    else .tuple #[.agg (brush 0 0 0 0 0), .int .i64 2]
  else .tuple #[.agg (brush 0 0 0 0 0), .int .i64 1]
theorem dipV_is (a b c wt sh k n m : Int) : ∃ a1 b1 c1 wt1 sh1 z : Int, dipV a b c wt sh k n m = .tuple #[.agg (brush a1 b1 c1 wt1 sh1), .int .i64 z] := by
  unfold dipV
  split
  · split
    · split
      · exact ⟨_, _, _, _, _, _, rfl⟩
      · exact ⟨_, _, _, _, _, _, rfl⟩
    · exact ⟨_, _, _, _, _, _, rfl⟩
  · exact ⟨_, _, _, _, _, _, rfl⟩
theorem okBrush_in {a b c wt sh : Int} (h : okBrush a b c wt sh = true) : 0 ≤ a ∧ a ≤ 900 ∧ 0 ≤ b ∧ b ≤ 900 ∧ 0 ≤ c ∧ c ≤ 900 ∧ a + b + c ≤ 900 ∧ 0 ≤ wt ∧ wt ≤ 200 ∧ 1 ≤ sh ∧ sh ≤ 16 := by simpa [okBrush] using h
end Go.Proofs.Ytigiooollonmjaa
