/- Two brushes share what they have: the numbers. Written by gen_mixb.py. -/
import Derived.Test.YtigiooollonmjaaBrush
import Derived.Test.YtigiooollonmjaaEq
import Derived.Test.YtigiooollonmjaaDipV
import Derived.RegionTactic
import Derived.IntWalk
namespace Go.Proofs.Ytigiooollonmjaa
open Go.RowKit
set_option linter.unusedVariables false
set_option linter.unusedSimpArgs false
set_option maxRecDepth 100000
def up2 (s : Int) : Int := (s + 1).tdiv 2
def dn2 (s : Int) : Int := s.tdiv 2
theorem tdiv2 {s : Int} (h : 0 ≤ s) : s.tdiv 2 = s / 2 := Int.tdiv_eq_ediv_of_nonneg h
theorem wrap16_in {n : Int} (h : -32768 ≤ n ∧ n ≤ 32767) : IntKind.i16.wrap n = n := by
  simp only [IntKind.wrap, IntKind.bits, IntKind.signed]; simp; omega
theorem up2_in {s : Int} (h : 0 ≤ s) (g : s ≤ 1800) : 0 ≤ up2 s ∧ up2 s ≤ 900 := by unfold up2; rw [tdiv2 (by omega)]; omega
theorem dn2_in {s : Int} (h : 0 ≤ s) (g : s ≤ 1800) : 0 ≤ dn2 s ∧ dn2 s ≤ 900 := by unfold dn2; rw [tdiv2 h]; omega
theorem up2_wrap {s : Int} (h : 0 ≤ s) (g : s ≤ 1800) : IntKind.i16.wrap ((s + 1).tdiv 2) = up2 s := by have := up2_in h g; exact wrap16_in (by unfold up2 at this; omega)
theorem dn2_wrap {s : Int} (h : 0 ≤ s) (g : s ≤ 1800) : IntKind.i16.wrap (s.tdiv 2) = dn2 s := by have := dn2_in h g; exact wrap16_in (by unfold dn2 at this; omega)
theorem up_dn {s : Int} (h : 0 ≤ s) : s - dn2 s = up2 s := by unfold up2 dn2; rw [tdiv2 h, tdiv2 (by omega)]; omega
def mixbV (a b c wt sh d e f wu si : Int) : Value :=
  if okBrush a b c wt sh = true ∧ okBrush d e f wu si = true then
    if okBrush (up2 (a + d)) (up2 (b + e)) (up2 (c + f)) (up2 (wt + wu)) sh = true ∧ okBrush (dn2 (a + d)) (dn2 (b + e)) (dn2 (c + f)) (dn2 (wt + wu)) si = true then .tuple #[.agg (brush (up2 (a + d)) (up2 (b + e)) (up2 (c + f)) (up2 (wt + wu)) sh), .agg (brush (dn2 (a + d)) (dn2 (b + e)) (dn2 (c + f)) (dn2 (wt + wu)) si), .int .i64 0] else .tuple #[.agg (brush 0 0 0 0 0), .agg (brush 0 0 0 0 0), .int .i64 3]
  else .tuple #[.agg (brush 0 0 0 0 0), .agg (brush 0 0 0 0 0), .int .i64 1]
theorem mixbV_is (a b c wt sh d e f wu si : Int) : ∃ a1 b1 c1 wt1 sh1 a2 b2 c2 wt2 sh2 z : Int, mixbV a b c wt sh d e f wu si = .tuple #[.agg (brush a1 b1 c1 wt1 sh1), .agg (brush a2 b2 c2 wt2 sh2), .int .i64 z] := by
  unfold mixbV
  split
  · split
    · exact ⟨_, _, _, _, _, _, _, _, _, _, _, rfl⟩
    · exact ⟨_, _, _, _, _, _, _, _, _, _, _, rfl⟩
  · exact ⟨_, _, _, _, _, _, _, _, _, _, _, rfl⟩
end Go.Proofs.Ytigiooollonmjaa
