/- Two brushes share what they have: one side. Written by gen_mixb.py. -/
import Derived.Test.YtigiooollonmjaaMixBV
import Derived.RegionTactic
import Derived.StillTailTactics
import Derived.BigQuiet
import Derived.Lib.Hide
namespace Go.Proofs.Ytigiooollonmjaa
open Go.RowKit
set_option linter.unusedVariables false
set_option linter.unusedSimpArgs false
set_option maxRecDepth 100000
set_option maxHeartbeats 2000000 in
theorem share0_any (p q : Nat) (hpq : p ≠ q) (a b c wt sh d e f wu si : Int) (hx : 0 ≤ a ∧ a ≤ 900) (hy : 0 ≤ d ∧ d ≤ 900) (w : World) (hr : rowOf w p = brush a b c wt sh) (hr2 : rowOf w q = brush d e f wu si) (hfp : frOf w p = (0, 0)) (hfq : frOf w q = (0, 0)) (hp : p < w.heap.size) (hq : q < w.heap.size) :
    Calls Try.prog 64 #[.pointer (some ⟨p, 0, none⟩), .pointer (some ⟨q, 0, none⟩)] w fun e' w' => e' = .returned (.tuple #[]) ∧ ∃ n, w' = ((w.drewN n).setCell ⟨p, 0, none⟩ (.int .i16 (up2 (a + d)))).setCell ⟨q, 0, none⟩ (.int .i16 (dn2 (a + d))) := by
  have v0 := dn2_in (s := a + d) (by omega) (by omega)
  have ev := dn2_wrap (s := a + d) (by omega) (by omega)
  have u0 := up2_in (s := a + d) (by omega) (by omega)
  have es := up_dn (s := a + d) (by omega)
  have HE := Lib.hid es
  clear es
  go_enter Try.func64, Try.ntmps64
  go_wp2
  go_quiet (fail)
  go_wp2
  rw [HE.out]
  exact bodyPost_end (v := .tuple #[]) (by simp [results, Try.f64]) rfl ⟨rfl, _, rfl⟩
set_option maxHeartbeats 2000000 in
theorem share1_any (p q : Nat) (hpq : p ≠ q) (a b c wt sh d e f wu si : Int) (hx : 0 ≤ b ∧ b ≤ 900) (hy : 0 ≤ e ∧ e ≤ 900) (w : World) (hr : rowOf w p = brush a b c wt sh) (hr2 : rowOf w q = brush d e f wu si) (hfp : frOf w p = (0, 0)) (hfq : frOf w q = (0, 0)) (hp : p < w.heap.size) (hq : q < w.heap.size) :
    Calls Try.prog 64 #[.pointer (some ⟨p, 1, none⟩), .pointer (some ⟨q, 1, none⟩)] w fun e' w' => e' = .returned (.tuple #[]) ∧ ∃ n, w' = ((w.drewN n).setCell ⟨p, 1, none⟩ (.int .i16 (up2 (b + e)))).setCell ⟨q, 1, none⟩ (.int .i16 (dn2 (b + e))) := by
  have v0 := dn2_in (s := b + e) (by omega) (by omega)
  have ev := dn2_wrap (s := b + e) (by omega) (by omega)
  have u0 := up2_in (s := b + e) (by omega) (by omega)
  have es := up_dn (s := b + e) (by omega)
  have HE := Lib.hid es
  clear es
  go_enter Try.func64, Try.ntmps64
  go_wp2
  go_quiet (fail)
  go_wp2
  rw [HE.out]
  exact bodyPost_end (v := .tuple #[]) (by simp [results, Try.f64]) rfl ⟨rfl, _, rfl⟩
set_option maxHeartbeats 2000000 in
theorem share2_any (p q : Nat) (hpq : p ≠ q) (a b c wt sh d e f wu si : Int) (hx : 0 ≤ c ∧ c ≤ 900) (hy : 0 ≤ f ∧ f ≤ 900) (w : World) (hr : rowOf w p = brush a b c wt sh) (hr2 : rowOf w q = brush d e f wu si) (hfp : frOf w p = (0, 0)) (hfq : frOf w q = (0, 0)) (hp : p < w.heap.size) (hq : q < w.heap.size) :
    Calls Try.prog 64 #[.pointer (some ⟨p, 2, none⟩), .pointer (some ⟨q, 2, none⟩)] w fun e' w' => e' = .returned (.tuple #[]) ∧ ∃ n, w' = ((w.drewN n).setCell ⟨p, 2, none⟩ (.int .i16 (up2 (c + f)))).setCell ⟨q, 2, none⟩ (.int .i16 (dn2 (c + f))) := by
  have v0 := dn2_in (s := c + f) (by omega) (by omega)
  have ev := dn2_wrap (s := c + f) (by omega) (by omega)
  have u0 := up2_in (s := c + f) (by omega) (by omega)
  have es := up_dn (s := c + f) (by omega)
  have HE := Lib.hid es
  clear es
  go_enter Try.func64, Try.ntmps64
  go_wp2
  go_quiet (fail)
  go_wp2
  rw [HE.out]
  exact bodyPost_end (v := .tuple #[]) (by simp [results, Try.f64]) rfl ⟨rfl, _, rfl⟩
set_option maxHeartbeats 2000000 in
theorem share3_any (p q : Nat) (hpq : p ≠ q) (a b c wt sh d e f wu si : Int) (hx : 0 ≤ wt ∧ wt ≤ 900) (hy : 0 ≤ wu ∧ wu ≤ 900) (w : World) (hr : rowOf w p = brush a b c wt sh) (hr2 : rowOf w q = brush d e f wu si) (hfp : frOf w p = (0, 0)) (hfq : frOf w q = (0, 0)) (hp : p < w.heap.size) (hq : q < w.heap.size) :
    Calls Try.prog 64 #[.pointer (some ⟨p, 3, none⟩), .pointer (some ⟨q, 3, none⟩)] w fun e' w' => e' = .returned (.tuple #[]) ∧ ∃ n, w' = ((w.drewN n).setCell ⟨p, 3, none⟩ (.int .i16 (up2 (wt + wu)))).setCell ⟨q, 3, none⟩ (.int .i16 (dn2 (wt + wu))) := by
  have v0 := dn2_in (s := wt + wu) (by omega) (by omega)
  have ev := dn2_wrap (s := wt + wu) (by omega) (by omega)
  have u0 := up2_in (s := wt + wu) (by omega) (by omega)
  have es := up_dn (s := wt + wu) (by omega)
  have HE := Lib.hid es
  clear es
  go_enter Try.func64, Try.ntmps64
  go_wp2
  go_quiet (fail)
  go_wp2
  rw [HE.out]
  exact bodyPost_end (v := .tuple #[]) (by simp [results, Try.f64]) rfl ⟨rfl, _, rfl⟩
end Go.Proofs.Ytigiooollonmjaa
