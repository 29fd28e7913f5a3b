/- Ink goes over from a sheet to another one: the reference. -/
import Derived.Test.YtbnhhjjhjjmmjaaBlotP
import Derived.Test.YtbnhhjjhjjmmjaaWaterI
import Derived.Laws.AppendOwn
import Derived.BigQuiet
import Derived.Deep.RegionHeld3
namespace Go.Proofs.Ytbnhhjjhjjmmjaa
open Go.RowKit
set_option linter.unusedVariables false
set_option linter.unusedSimpArgs false
set_option maxRecDepth 100000
def RowsT (c : Nat → Int) (w : World) (W H : Nat) (i v : Value) (wr : World) : Prop := ∃ y : Nat, y ≤ H ∧ i = .int .i8 y ∧ Below w.heap.size w wr ∧ wr.ownsRow w.heap.size 81 2 v (y * W) (spots W (y * W))
def CellsT (c : Nat → Int) (w : World) (W y : Nat) (i v : Value) (wr : World) : Prop := ∃ x : Nat, x ≤ W ∧ i = .int .i8 x ∧ Below w.heap.size w wr ∧ wr.ownsRow w.heap.size 81 2 v (y * W + x) (spots W (y * W + x))
set_option maxHeartbeats 2000000 in
theorem l01Spots_any (p : Nat) (c : Nat → Int) (hf : FitSheet c) (W H : Nat) (hW : c 0 = W) (hH : c 1 = H) (W8 : W ≤ 8) (H8 : H ≤ 8) (w : World) (hr : rowOf w p = kc sk 266 c) (hp : p < w.heap.size) :
    Calls Try.prog 118 #[.pointer (some ⟨p, 0, none⟩)] w fun e w' => ∃ v, e = .returned v ∧ w'.ownsRow w.heap.size 81 2 v (H * W) (spots W (H * W)) ∧ Below w.heap.size w w' := by
  obtain ⟨i0, z0, hi0, hz0, hs0, hb0, hc0⟩ := spot_info
  go_enter Try.func118, Try.ntmps118
  go_wp2
  go_loopw [4, 3] (fun i v wr => RowsT c w W H i v wr) (fun i v wr => H - (intOf i).toNat)
  case atStart => exact ⟨0, by omega, rfl, by repeat' (first | with_reducible exact Below.refl _ _ | with_reducible assumption | with_reducible refine Below.drew ?_ | with_reducible refine Below.drewN ?_ _ | with_reducible refine Below.alloc ?_ ?_ _ | with_reducible refine Below.setCell ?_ ?_ _ | with_reducible refine Below.setRow ?_ ?_ _ | with_reducible refine below_step (by assumption) ?_ ?_ | (show (_ : Nat) ≤ _; first | omega | (simp <;> omega))), by rw [Nat.zero_mul]; exact owns_empty _ _⟩
  case round =>
    obtain ⟨y, hy, rfl, hb, hown⟩ := hrel
    obtain ⟨wo, rfl⟩ : ∃ wo : World, wo = wr := ⟨_, rfl⟩
    have hro : rowOf wo p = kc sk 266 c := (keep_row hb hp).trans hr
    have hpo : p < wo.heap.size := Nat.lt_of_lt_of_le hp hb.size
    have HO := Lib.hid hown
    clear hown
    by_cases hlt : y < H
    · have hd : decide ((y : Int) < (H : Int)) = true := decide_eq_true (by omega)
      go_wp2
      go_loopw [5, 3] (fun i v wr => CellsT c w W y i v wr) (fun i v wr => W - (intOf i).toNat)
      case atStart => exact ⟨0, by omega, rfl, by repeat' (first | with_reducible exact Below.refl _ _ | with_reducible assumption | with_reducible refine Below.drew ?_ | with_reducible refine Below.drewN ?_ _ | with_reducible refine Below.alloc ?_ ?_ _ | with_reducible refine Below.setCell ?_ ?_ _ | with_reducible refine Below.setRow ?_ ?_ _ | with_reducible refine below_step (by assumption) ?_ ?_ | (show (_ : Nat) ≤ _; first | omega | (simp <;> omega))), HO.out⟩
      case round =>
        obtain ⟨x, hx, rfl, hb2, hown⟩ := hrel
        have hsz := hb2.size
        have hrw : rowOf wr p = kc sk 266 c := (keep_row hb2 hp).trans hr
        have hpw : p < wr.heap.size := Nat.lt_of_lt_of_le hp hb2.size
        by_cases hlx : x < W
        · have hdx : decide ((x : Int) < (W : Int)) = true := decide_eq_true (by omega)
          have hyW : y * W ≤ 7 * W := Nat.mul_le_mul_right _ (by omega)
          go_wp2_with (at_builtin; refine wpList_append_own _ rfl _ _ 27 rfl w.heap.size 81 i0 z0 2 2 Try.underlying27 hi0 hz0 hs0 hb0 hc0 (by decide) _ _ _ rfl (hown.alloc _) ⟨wr.heap.size, 0, none⟩ 1 1 [.int .i8 x, .int .i8 y] rfl rfl ?c1 ?c2 ?c3 ?c4 ?c5 ?_)
          case c1 =>
            intro j u hj
            match j, hj with
            | 0, hj => simp at hj; subst hj; simp [Addr.add]
            | 1, hj => simp at hj; subst hj; simp [Addr.add]
          case c2 => intro u hu; simp at hu; rcases hu with rfl | rfl <;> rfl
          case c3 => unfold maxLen; omega
          case c4 => omega
          case c5 => simp; omega
          intro v' w1 hown' hgrow _
          rw [← spots_next W x y hlx] at hown'
          have hbg : Below w.heap.size w w1 := below_grown (Below.alloc hb2 (by omega) _) hgrow (owns_base hown) (by simp; omega)
          have HB := Lib.hid hbg
          have HW := Lib.hid hown'
          clear hbg hown' hgrow
          go_wp2
          go_roundw
          case rel => first | exact ⟨x + 1, by omega, by go_num, HB.out, HW.out⟩ | ((repeat (with_reducible apply Exists.intro)); refine And.intro ?_ ?_; rotate_left; focus ((repeat' (with_reducible apply And.intro)) <;> rfl); exact ⟨x + 1, by omega, by go_num, HB.out, HW.out⟩)
          case measure => simp [intOf]; omega
        · have HX := Lib.hid hown
          clear hown
          have hxe : x = W := by omega
          subst hxe
          go_wp2
          go_roundw
          case rel => first | exact ⟨y + 1, by omega, by go_num, hb2, by rw [Nat.succ_mul]; exact HX.out⟩ | ((repeat (with_reducible apply Exists.intro)); refine And.intro ?_ ?_; rotate_left; focus ((repeat' (with_reducible apply And.intro)) <;> rfl); exact ⟨y + 1, by omega, by go_num, hb2, by rw [Nat.succ_mul]; exact HX.out⟩)
          case measure => simp [intOf]; omega
    · have hye : y = H := by omega
      subst hye
      go_wp2
      go_ret
      exact ⟨_, rfl, HO.out, by repeat' (first | with_reducible exact Below.refl _ _ | with_reducible assumption | with_reducible refine Below.drew ?_ | with_reducible refine Below.drewN ?_ _ | with_reducible refine Below.alloc ?_ ?_ _ | with_reducible refine Below.setCell ?_ ?_ _ | with_reducible refine Below.setRow ?_ ?_ _ | with_reducible refine below_step (by assumption) ?_ ?_ | (show (_ : Nat) ≤ _; first | omega | (simp <;> omega)))⟩
end Go.Proofs.Ytbnhhjjhjjmmjaa
