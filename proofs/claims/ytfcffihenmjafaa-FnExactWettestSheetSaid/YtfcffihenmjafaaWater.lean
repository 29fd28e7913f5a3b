/- The water of a sheet, in both. -/
import Derived.Test.YtfcffihenmjafaaSums
import Derived.Test.YtfcffihenmjafaaAskBase
namespace Go.Proofs.Ytfcffihenmjafaa
open Go.RowKit
set_option linter.unusedVariables false
set_option linter.unusedSimpArgs false
set_option maxRecDepth 100000
abbrev wetF (c : Nat → Int) : Nat → Int := fun k => c (2 + k)
theorem wet_bound {c : Nat → Int} (hf : FitSheet c) (n : Nat) (hn : n ≤ 64) : -2097152 ≤ sumTo (wetF c) n ∧ sumTo (wetF c) n ≤ 2097152 := by
  have := sumTo_in (wetF c) (-32768) 32767 n (fun k hk => hf.cell (2 + k) (by omega) (by omega))
  omega
def SumR (c : Nat → Int) (w : World) (i s : Value) (wr : World) : Prop := ∃ y : Nat, y ≤ 8 ∧ i = .int .i64 y ∧ s = .int .i64 (sumTo (wetF c) (y * 8)) ∧ Below w.heap.size w wr
def SumC (c : Nat → Int) (w : World) (y : Nat) (i s : Value) (wr : World) : Prop := ∃ x : Nat, x ≤ 8 ∧ i = .int .i64 x ∧ s = .int .i64 (sumTo (wetF c) (y * 8 + x)) ∧ Below w.heap.size w wr
set_option maxHeartbeats 1000000 in
theorem l01Water_any (p : Nat) (c : Nat → Int) (hf : FitSheet c) (w : World) (hr : rowOf w p = kc sk 266 c) (hp : p < w.heap.size) :
    Calls Try.prog 57 #[.pointer (some ⟨p, 0, none⟩)] w fun e w' => e = .returned (.int .i64 (sumTo (wetF c) 64)) ∧ Below w.heap.size w w' := by
  go_enter Try.func57, Try.ntmps57
  go_wp2
  go_loopw [4, 3] (fun i s wr => SumR c w i s wr) (fun i s wr => 8 - (intOf i).toNat)
  case atStart => exact ⟨0, by omega, rfl, rfl, by repeat' (first | with_reducible exact Below.refl _ _ | with_reducible assumption | with_reducible refine Below.drew ?_ | with_reducible refine Below.drewN ?_ _ | with_reducible refine Below.alloc ?_ ?_ _ | with_reducible refine Below.setCell ?_ ?_ _ | with_reducible refine Below.setRow ?_ ?_ _ | with_reducible refine below_step (by assumption) ?_ ?_ | (show (_ : Nat) ≤ _; first | omega | (simp <;> omega)))⟩
  case round =>
    obtain ⟨y, hy, rfl, rfl, hb⟩ := hrel
    obtain ⟨wo, rfl⟩ : ∃ wo : World, wo = wr := ⟨_, rfl⟩
    by_cases hlt : y < 8
    · have hd8 : decide ((y : Int) < 8) = true := decide_eq_true (by omega)
      go_wp2
      go_loopw [5, 3] (fun i s wr => SumC c w y i s wr) (fun i s wr => 8 - (intOf i).toNat)
      case atStart => exact ⟨0, by omega, rfl, rfl, by repeat' (first | with_reducible exact Below.refl _ _ | with_reducible assumption | with_reducible refine Below.drew ?_ | with_reducible refine Below.drewN ?_ _ | with_reducible refine Below.alloc ?_ ?_ _ | with_reducible refine Below.setCell ?_ ?_ _ | with_reducible refine Below.setRow ?_ ?_ _ | with_reducible refine below_step (by assumption) ?_ ?_ | (show (_ : Nat) ≤ _; first | omega | (simp <;> omega)))⟩
      case round =>
        obtain ⟨x, hx, rfl, rfl, hb2⟩ := hrel
        have hrw : rowOf wr p = kc sk 266 c := (keep_row hb2 hp).trans hr
        have hpw : p < wr.heap.size := Nat.lt_of_lt_of_le hp hb2.size
        by_cases hlx : x < 8
        · have hw0 := hf.cell (2 + y * 8 + x) (by omega) (by omega)
          have HN := Lib.hid (show sumTo (wetF c) (y * 8 + x) + c (2 + y * 8 + x) = sumTo (wetF c) (y * 8 + (x + 1)) by
            show _ = sumTo (wetF c) (y * 8 + x) + c (2 + (y * 8 + x)); rw [Nat.add_assoc])
          have hs := wet_bound hf (y * 8 + x) (by omega)
          generalize sumTo (wetF c) (y * 8 + x) = S at hs HN ⊢
          go_wp2
          go_roundw
          case rel => first | exact ⟨x + 1, by omega, by go_num, by rw [← HN.out], by repeat' (first | with_reducible exact Below.refl _ _ | with_reducible assumption | with_reducible refine Below.drew ?_ | with_reducible refine Below.drewN ?_ _ | with_reducible refine Below.alloc ?_ ?_ _ | with_reducible refine Below.setCell ?_ ?_ _ | with_reducible refine Below.setRow ?_ ?_ _ | with_reducible refine below_step (by assumption) ?_ ?_ | (show (_ : Nat) ≤ _; first | omega | (simp <;> omega)))⟩ | ((repeat (with_reducible apply Exists.intro)); refine And.intro ?_ ?_; rotate_left; focus ((repeat' (with_reducible apply And.intro)) <;> rfl); exact ⟨x + 1, by omega, by go_num, by rw [← HN.out], by repeat' (first | with_reducible exact Below.refl _ _ | with_reducible assumption | with_reducible refine Below.drew ?_ | with_reducible refine Below.drewN ?_ _ | with_reducible refine Below.alloc ?_ ?_ _ | with_reducible refine Below.setCell ?_ ?_ _ | with_reducible refine Below.setRow ?_ ?_ _ | with_reducible refine below_step (by assumption) ?_ ?_ | (show (_ : Nat) ≤ _; first | omega | (simp <;> omega)))⟩)
          case measure => simp [intOf]; omega
        · have hxe : x = 8 := by omega
          subst hxe
          go_wp2
          go_roundw
          case rel => first | exact ⟨y + 1, by omega, by go_num, by rw [Nat.succ_mul], by repeat' (first | with_reducible exact Below.refl _ _ | with_reducible assumption | with_reducible refine Below.drew ?_ | with_reducible refine Below.drewN ?_ _ | with_reducible refine Below.alloc ?_ ?_ _ | with_reducible refine Below.setCell ?_ ?_ _ | with_reducible refine Below.setRow ?_ ?_ _ | with_reducible refine below_step (by assumption) ?_ ?_ | (show (_ : Nat) ≤ _; first | omega | (simp <;> omega)))⟩ | ((repeat (with_reducible apply Exists.intro)); refine And.intro ?_ ?_; rotate_left; focus ((repeat' (with_reducible apply And.intro)) <;> rfl); exact ⟨y + 1, by omega, by go_num, by rw [Nat.succ_mul], by repeat' (first | with_reducible exact Below.refl _ _ | with_reducible assumption | with_reducible refine Below.drew ?_ | with_reducible refine Below.drewN ?_ _ | with_reducible refine Below.alloc ?_ ?_ _ | with_reducible refine Below.setCell ?_ ?_ _ | with_reducible refine Below.setRow ?_ ?_ _ | with_reducible refine below_step (by assumption) ?_ ?_ | (show (_ : Nat) ≤ _; first | omega | (simp <;> omega)))⟩)
          case measure => simp [intOf]; omega
    · have hye : y = 8 := by omega
      subst hye
      go_wp2
      go_ret
      exact ⟨rfl, by repeat' (first | with_reducible exact Below.refl _ _ | with_reducible assumption | with_reducible refine Below.drew ?_ | with_reducible refine Below.drewN ?_ _ | with_reducible refine Below.alloc ?_ ?_ _ | with_reducible refine Below.setCell ?_ ?_ _ | with_reducible refine Below.setRow ?_ ?_ _ | with_reducible refine below_step (by assumption) ?_ ?_ | (show (_ : Nat) ≤ _; first | omega | (simp <;> omega)))⟩
end Go.Proofs.Ytfcffihenmjafaa
