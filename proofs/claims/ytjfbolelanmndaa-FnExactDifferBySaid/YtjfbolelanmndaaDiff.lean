/- By how much the dyes of two sheets differ: the reference. -/
import Derived.Test.YtjfbolelanmndaaWaterI
namespace Go.Proofs.Ytjfbolelanmndaa
open Go.RowKit
set_option linter.unusedVariables false
set_option linter.unusedSimpArgs false
set_option maxRecDepth 100000
def mag (n : Int) : Int := if -n < n then n else -n
theorem mag_in {n : Int} (h : -65535 ≤ n ∧ n ≤ 65535) : 0 ≤ mag n ∧ mag n ≤ 65535 := by unfold mag; split <;> omega
/-- The dyes of the k-th place. -/
def diffF (c d : Nat → Int) (k : Nat) : Int := mag (c (66 + k * 3) - d (66 + k * 3)) + mag (c (66 + k * 3 + 1) - d (66 + k * 3 + 1)) + mag (c (66 + k * 3 + 2) - d (66 + k * 3 + 2))
theorem diff_bound {c d : Nat → Int} (hc : FitSheet c) (hd : FitSheet d) (k : Nat) (hk : k < 64) : 0 ≤ diffF c d k ∧ diffF c d k ≤ 196605 := by
  have a0 := hc.cell (66 + k * 3) (by omega) (by omega)
  have a1 := hc.cell (66 + k * 3 + 1) (by omega) (by omega)
  have a2 := hc.cell (66 + k * 3 + 2) (by omega) (by omega)
  have b0 := hd.cell (66 + k * 3) (by omega) (by omega)
  have b1 := hd.cell (66 + k * 3 + 1) (by omega) (by omega)
  have b2 := hd.cell (66 + k * 3 + 2) (by omega) (by omega)
  have e0 := mag_in (n := c (66 + k * 3) - d (66 + k * 3)) (by omega)
  have e1 := mag_in (n := c (66 + k * 3 + 1) - d (66 + k * 3 + 1)) (by omega)
  have e2 := mag_in (n := c (66 + k * 3 + 2) - d (66 + k * 3 + 2)) (by omega)
  unfold diffF
  omega
theorem diff_sum {c d : Nat → Int} (hc : FitSheet c) (hd : FitSheet d) (n : Nat) (hn : n ≤ 64) : 0 ≤ sumTo (diffF c d) n ∧ sumTo (diffF c d) n ≤ 12582720 := by
  have := sumTo_in (diffF c d) 0 196605 n (fun k hk => diff_bound hc hd k (by omega))
  omega
theorem diff_at (c d : Nat → Int) (y x : Nat) : diffF c d (y * 8 + x) = mag (c (66 + y * 24 + x * 3) - d (66 + y * 24 + x * 3)) + mag (c (66 + y * 24 + x * 3 + 1) - d (66 + y * 24 + x * 3 + 1)) + mag (c (66 + y * 24 + x * 3 + 2) - d (66 + y * 24 + x * 3 + 2)) := by
  unfold diffF
  rw [show 66 + (y * 8 + x) * 3 = 66 + y * 24 + x * 3 by omega]
/-- A quiet call behind draws that the walk has joined. -/
theorem quiet_more {P : Program} {f : FuncId} {args : Array Value} {w : World} {a n : Nat} {v : Value} (h : Calls P f args (w.drewN (a + n)) fun e w' => e = .returned v ∧ w' = w.drewN (a + n)) :
    Calls P f args (w.drewN (a + n)) fun e w' => e = .returned v ∧ ∃ m, w' = w.drewN (a + m) := h.mono fun _ _ ⟨he, hm⟩ => ⟨he, n, hm⟩
theorem l00Max_q (a b : Int) (w : World) : Calls Try.prog 97 #[.int .i64 a, .int .i64 b] w fun e w' => e = .returned (.int .i64 (if b < a then a else b)) ∧ w' = w := by
  by_cases h : b < a
  all_goals
    go_enter Try.func97, Try.ntmps97
    go_wp2
    go_ret
    exact ⟨by simp [h], rfl⟩
theorem l01Size_m (n : Int) (h : -1000000000 ≤ n ∧ n ≤ 1000000000) (w : World) : Calls Try.prog 92 #[.int .i64 n] w fun e w' => e = .returned (.int .i64 (mag n)) ∧ w' = w := by
  have ⟨h1, h2⟩ := h
  go_enter Try.func92, Try.ntmps92
  go_wp2_with (go_at_call 97; refine (l00Max_q _ _ _).mono ?_; rintro e w1 ⟨rfl, rfl⟩)
  all_goals
    go_ret
    first | exact ⟨rfl, rfl⟩ | exact ⟨by simp [mag] <;> omega, rfl⟩
def DiffR (c d : Nat → Int) (w : World) (i s : Value) (wr : World) : Prop := ∃ y : Nat, y ≤ 8 ∧ i = .int .i64 y ∧ s = .int .i64 (sumTo (diffF c d) (y * 8)) ∧ Below w.heap.size w wr
def DiffC (c d : Nat → Int) (w : World) (y : Nat) (i s : Value) (wr : World) : Prop := ∃ x : Nat, x ≤ 8 ∧ i = .int .i64 x ∧ s = .int .i64 (sumTo (diffF c d) (y * 8 + x)) ∧ Below w.heap.size w wr
set_option maxHeartbeats 4000000 in
theorem l01Differ_any (p q : Nat) (c d : Nat → Int) (hc : FitSheet c) (hd : FitSheet d) (w : World) (hr : rowOf w p = kc sk 266 c) (hp : p < w.heap.size) (hr2 : rowOf w q = kc sk 266 d) (hq : q < w.heap.size) :
    Calls Try.prog 65 #[.pointer (some ⟨p, 0, none⟩), .pointer (some ⟨q, 0, none⟩)] w fun e w' => e = .returned (.int .i64 (sumTo (diffF c d) 64)) ∧ Below w.heap.size w w' := by
  go_enter Try.func65, Try.ntmps65
  go_wp2
  go_loopw [6, 5] (fun i s wr => DiffR c d w i s wr) (fun i s wr => 8 - (intOf i).toNat)
  case atStart => exact ⟨0, by omega, rfl, rfl, by repeat' (first | with_reducible exact Below.refl _ _ | with_reducible assumption | with_reducible refine Below.drew ?_ | with_reducible refine Below.drewN ?_ _ | with_reducible refine Below.alloc ?_ ?_ _ | with_reducible refine Below.setCell ?_ ?_ _ | with_reducible refine Below.setRow ?_ ?_ _ | with_reducible refine below_step (by assumption) ?_ ?_ | (show (_ : Nat) ≤ _; first | omega | (simp <;> omega)))⟩
  case round =>
    obtain ⟨y, hy, rfl, rfl, hb⟩ := hrel
    obtain ⟨wo, rfl⟩ : ∃ wo : World, wo = wr := ⟨_, rfl⟩
    by_cases hlt : y < 8
    · have hd8 : decide ((y : Int) < 8) = true := decide_eq_true (by omega)
      go_wp2
      go_loopw [7, 5] (fun i s wr => DiffC c d w y i s wr) (fun i s wr => 8 - (intOf i).toNat)
      case atStart => exact ⟨0, by omega, rfl, rfl, by repeat' (first | with_reducible exact Below.refl _ _ | with_reducible assumption | with_reducible refine Below.drew ?_ | with_reducible refine Below.drewN ?_ _ | with_reducible refine Below.alloc ?_ ?_ _ | with_reducible refine Below.setCell ?_ ?_ _ | with_reducible refine Below.setRow ?_ ?_ _ | with_reducible refine below_step (by assumption) ?_ ?_ | (show (_ : Nat) ≤ _; first | omega | (simp <;> omega)))⟩
      case round =>
        obtain ⟨x, hx, rfl, rfl, hb2⟩ := hrel
        have hrw : rowOf wr p = kc sk 266 c := (keep_row hb2 hp).trans hr
        have hpw : p < wr.heap.size := Nat.lt_of_lt_of_le hp hb2.size
        have hrw2 : rowOf wr q = kc sk 266 d := (keep_row hb2 hq).trans hr2
        have hqw : q < wr.heap.size := Nat.lt_of_lt_of_le hq hb2.size
        by_cases hlx : x < 8
        · have a0 := hc.cell (66 + y * 24 + x * 3) (by omega) (by omega)
          have a1 := hc.cell (66 + y * 24 + x * 3 + 1) (by omega) (by omega)
          have a2 := hc.cell (66 + y * 24 + x * 3 + 2) (by omega) (by omega)
          have b0 := hd.cell (66 + y * 24 + x * 3) (by omega) (by omega)
          have b1 := hd.cell (66 + y * 24 + x * 3 + 1) (by omega) (by omega)
          have b2 := hd.cell (66 + y * 24 + x * 3 + 2) (by omega) (by omega)
          have m0 := mag_in (n := c (66 + y * 24 + x * 3) - d (66 + y * 24 + x * 3)) (by omega)
          have m1 := mag_in (n := c (66 + y * 24 + x * 3 + 1) - d (66 + y * 24 + x * 3 + 1)) (by omega)
          have m2 := mag_in (n := c (66 + y * 24 + x * 3 + 2) - d (66 + y * 24 + x * 3 + 2)) (by omega)
          have HN := Lib.hid (show sumTo (diffF c d) (y * 8 + x) + mag (c (66 + y * 24 + x * 3) - d (66 + y * 24 + x * 3)) + mag (c (66 + y * 24 + x * 3 + 1) - d (66 + y * 24 + x * 3 + 1)) + mag (c (66 + y * 24 + x * 3 + 2) - d (66 + y * 24 + x * 3 + 2)) = sumTo (diffF c d) (y * 8 + (x + 1)) by
            show _ = sumTo (diffF c d) (y * 8 + x) + diffF c d (y * 8 + x); rw [diff_at]; omega)
          have hs := diff_sum hc hd (y * 8 + x) (by omega)
          generalize sumTo (diffF c d) (y * 8 + x) = S at hs HN ⊢
          have g0 := fun w => l01Size_m (c (66 + y * 24 + x * 3) - d (66 + y * 24 + x * 3)) (by omega) w
          have g1 := fun w => l01Size_m (c (66 + y * 24 + x * 3 + 1) - d (66 + y * 24 + x * 3 + 1)) (by omega) w
          have g2 := fun w => l01Size_m (c (66 + y * 24 + x * 3 + 2) - d (66 + y * 24 + x * 3 + 2)) (by omega) w
          generalize mag (c (66 + y * 24 + x * 3) - d (66 + y * 24 + x * 3)) = M0 at m0 g0 HN ⊢
          generalize mag (c (66 + y * 24 + x * 3 + 1) - d (66 + y * 24 + x * 3 + 1)) = M1 at m1 g1 HN ⊢
          generalize mag (c (66 + y * 24 + x * 3 + 2) - d (66 + y * 24 + x * 3 + 2)) = M2 at m2 g2 HN ⊢
          have hq0 : IntKind.i64.wrap (c (66 + y * 24 + x * 3)) = c (66 + y * 24 + x * 3) := IntWalk.i64_in _ (by omega); have hq1 : IntKind.i64.wrap (d (66 + y * 24 + x * 3)) = d (66 + y * 24 + x * 3) := IntWalk.i64_in _ (by omega); have hq2 : IntKind.i64.wrap (c (66 + y * 24 + x * 3) - d (66 + y * 24 + x * 3)) = c (66 + y * 24 + x * 3) - d (66 + y * 24 + x * 3) := IntWalk.i64_in _ (by omega); have hq3 : IntKind.i64.wrap (c (66 + y * 24 + x * 3 + 1)) = c (66 + y * 24 + x * 3 + 1) := IntWalk.i64_in _ (by omega); have hq4 : IntKind.i64.wrap (d (66 + y * 24 + x * 3 + 1)) = d (66 + y * 24 + x * 3 + 1) := IntWalk.i64_in _ (by omega); have hq5 : IntKind.i64.wrap (c (66 + y * 24 + x * 3 + 1) - d (66 + y * 24 + x * 3 + 1)) = c (66 + y * 24 + x * 3 + 1) - d (66 + y * 24 + x * 3 + 1) := IntWalk.i64_in _ (by omega); have hq6 : IntKind.i64.wrap (c (66 + y * 24 + x * 3 + 2)) = c (66 + y * 24 + x * 3 + 2) := IntWalk.i64_in _ (by omega); have hq7 : IntKind.i64.wrap (d (66 + y * 24 + x * 3 + 2)) = d (66 + y * 24 + x * 3 + 2) := IntWalk.i64_in _ (by omega); have hq8 : IntKind.i64.wrap (c (66 + y * 24 + x * 3 + 2) - d (66 + y * 24 + x * 3 + 2)) = c (66 + y * 24 + x * 3 + 2) - d (66 + y * 24 + x * 3 + 2) := IntWalk.i64_in _ (by omega); have hq9 : IntKind.i64.wrap (S + M0) = S + M0 := IntWalk.i64_in _ (by omega); have hq10 : IntKind.i64.wrap (S + M0 + M1) = S + M0 + M1 := IntWalk.i64_in _ (by omega); have hq11 : IntKind.i64.wrap (S + M0 + M1 + M2) = S + M0 + M1 + M2 := IntWalk.i64_in _ (by omega)
          go_wp2
          refine wp_loop_rounds 4 ?_; rw [rounds_succ]
          go_wp2
          go_quiet ((go_at_call 92; exact Calls.quiet_of_same (g0 _)))
          go_wp2_with ((rw [rounds_succ]))
          go_quiet ((go_at_call 92; exact quiet_more (g1 _)))
          go_wp2_with ((rw [rounds_succ]))
          go_quiet ((go_at_call 92; first | exact quiet_more (g2 _) | exact Calls.quiet_of_same (g2 _)))
          go_wp2_with ((rw [rounds_succ]))
          go_roundw
          case rel => first | exact ⟨x + 1, by omega, by go_num, by rw [← HN.out], by repeat' (first | with_reducible exact Below.refl _ _ | with_reducible assumption | with_reducible refine Below.drew ?_ | with_reducible refine Below.drewN ?_ _ | with_reducible refine Below.alloc ?_ ?_ _ | with_reducible refine Below.setCell ?_ ?_ _ | with_reducible refine Below.setRow ?_ ?_ _ | with_reducible refine below_step (by assumption) ?_ ?_ | (show (_ : Nat) ≤ _; first | omega | (simp <;> omega)))⟩ | ((repeat (with_reducible apply Exists.intro)); refine And.intro ?_ ?_; rotate_left; focus ((repeat' (with_reducible apply And.intro)) <;> rfl); exact ⟨x + 1, by omega, by go_num, by rw [← HN.out], by repeat' (first | with_reducible exact Below.refl _ _ | with_reducible assumption | with_reducible refine Below.drew ?_ | with_reducible refine Below.drewN ?_ _ | with_reducible refine Below.alloc ?_ ?_ _ | with_reducible refine Below.setCell ?_ ?_ _ | with_reducible refine Below.setRow ?_ ?_ _ | with_reducible refine below_step (by assumption) ?_ ?_ | (show (_ : Nat) ≤ _; first | omega | (simp <;> omega)))⟩)
          case measure => simp [intOf]; omega
        · have hxe : x = 8 := by omega
          subst hxe
          go_wp2
          go_roundw
          case rel => first | exact ⟨y + 1, by omega, by go_num, by rw [Nat.succ_mul], by repeat' (first | with_reducible exact Below.refl _ _ | with_reducible assumption | with_reducible refine Below.drew ?_ | with_reducible refine Below.drewN ?_ _ | with_reducible refine Below.alloc ?_ ?_ _ | with_reducible refine Below.setCell ?_ ?_ _ | with_reducible refine Below.setRow ?_ ?_ _ | with_reducible refine below_step (by assumption) ?_ ?_ | (show (_ : Nat) ≤ _; first | omega | (simp <;> omega)))⟩ | ((repeat (with_reducible apply Exists.intro)); refine And.intro ?_ ?_; rotate_left; focus ((repeat' (with_reducible apply And.intro)) <;> rfl); exact ⟨y + 1, by omega, by go_num, by rw [Nat.succ_mul], by repeat' (first | with_reducible exact Below.refl _ _ | with_reducible assumption | with_reducible refine Below.drew ?_ | with_reducible refine Below.drewN ?_ _ | with_reducible refine Below.alloc ?_ ?_ _ | with_reducible refine Below.setCell ?_ ?_ _ | with_reducible refine Below.setRow ?_ ?_ _ | with_reducible refine below_step (by assumption) ?_ ?_ | (show (_ : Nat) ≤ _; first | omega | (simp <;> omega)))⟩)
          case measure => simp [intOf]; omega
    · have hye : y = 8 := by omega
      subst hye
      go_wp2
      go_ret
      exact ⟨rfl, by repeat' (first | with_reducible exact Below.refl _ _ | with_reducible assumption | with_reducible refine Below.drew ?_ | with_reducible refine Below.drewN ?_ _ | with_reducible refine Below.alloc ?_ ?_ _ | with_reducible refine Below.setCell ?_ ?_ _ | with_reducible refine Below.setRow ?_ ?_ _ | with_reducible refine below_step (by assumption) ?_ ?_ | (show (_ : Nat) ≤ _; first | omega | (simp <;> omega)))⟩
end Go.Proofs.Ytjfbolelanmndaa
