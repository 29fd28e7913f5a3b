/- All cells of a picture, ordered, in a new slice, and how many show a number: the reference. -/
import Derived.Test.YtigiooollonmjaaPicsV
import Derived.Laws.AppendOwn
namespace Go.Proofs.Ytigiooollonmjaa
open Go.RowKit
set_option linter.unusedVariables false
set_option linter.unusedSimpArgs false
set_option maxRecDepth 100000
def RowsQ (c : Nat → Int) (w : World) (W H : Nat) (i v : Value) (wr : World) : Prop := ∃ y : Nat, y ≤ H ∧ i = .int .i8 y ∧ Below w.heap.size w wr ∧ wr.ownsRow w.heap.size 46 2 v (y * W) (spots W (y * W))
def CellsQ (c : Nat → Int) (w : World) (W y : Nat) (i v : Value) (wr : World) : Prop := ∃ x : Nat, x ≤ W ∧ i = .int .i8 x ∧ Below w.heap.size w wr ∧ wr.ownsRow w.heap.size 46 2 v (y * W + x) (spots W (y * W + x))
set_option maxHeartbeats 2000000 in
theorem l07Spots_any (p : Nat) (c : Nat → Int) (hf : FitPicture c) (W H : Nat) (hW : c 0 = W) (hH : c 1 = H) (W8 : W ≤ 8) (H8 : H ≤ 8) (w : World) (hr : rowOf w p = kc pk 66 c) (hp : p < w.heap.size) :
    Calls Try.prog 91 #[.pointer (some ⟨p, 0, none⟩)] w fun e w' => ∃ v, e = .returned v ∧ w'.ownsRow w.heap.size 46 2 v (H * W) (spots W (H * W)) ∧ Below w.heap.size w w' := by
  obtain ⟨i0, z0, hi0, hz0, hs0, hb0, hc0⟩ := spot_info
  go_enter Try.func91, Try.ntmps91
  go_wp2
  go_loopw [4, 3] (fun i v wr => RowsQ c w W H i v wr) (fun i v wr => H - (intOf i).toNat)
  case atStart => exact ⟨0, by omega, rfl, by repeat' (first | with_reducible exact Below.refl _ _ | with_reducible assumption | with_reducible refine Below.drew ?_ | with_reducible refine Below.drewN ?_ _ | with_reducible refine Below.alloc ?_ ?_ _ | with_reducible refine Below.setCell ?_ ?_ _ | with_reducible refine Below.setRow ?_ ?_ _ | with_reducible refine below_step (by assumption) ?_ ?_ | (show (_ : Nat) ≤ _; first | omega | (simp <;> omega))), by rw [Nat.zero_mul]; exact owns_empty _ _⟩
  case round =>
    obtain ⟨y, hy, rfl, hb, hown⟩ := hrel
    obtain ⟨wo, rfl⟩ : ∃ wo : World, wo = wr := ⟨_, rfl⟩
    have hro : rowOf wo p = kc pk 66 c := (keep_row hb hp).trans hr
    have hpo : p < wo.heap.size := Nat.lt_of_lt_of_le hp hb.size
    have HO := Lib.hid hown
    clear hown
    by_cases hlt : y < H
    · have hd : decide ((y : Int) < (H : Int)) = true := decide_eq_true (by omega)
      go_wp2
      go_loopw [5, 3] (fun i v wr => CellsQ c w W y i v wr) (fun i v wr => W - (intOf i).toNat)
      case atStart => exact ⟨0, by omega, rfl, by repeat' (first | with_reducible exact Below.refl _ _ | with_reducible assumption | with_reducible refine Below.drew ?_ | with_reducible refine Below.drewN ?_ _ | with_reducible refine Below.alloc ?_ ?_ _ | with_reducible refine Below.setCell ?_ ?_ _ | with_reducible refine Below.setRow ?_ ?_ _ | with_reducible refine below_step (by assumption) ?_ ?_ | (show (_ : Nat) ≤ _; first | omega | (simp <;> omega))), HO.out⟩
      case round =>
        obtain ⟨x, hx, rfl, hb2, hown⟩ := hrel
        have hsz := hb2.size
        have hrw : rowOf wr p = kc pk 66 c := (keep_row hb2 hp).trans hr
        have hpw : p < wr.heap.size := Nat.lt_of_lt_of_le hp hb2.size
        by_cases hlx : x < W
        · have hdx : decide ((x : Int) < (W : Int)) = true := decide_eq_true (by omega)
          have hyW : y * W ≤ 7 * W := Nat.mul_le_mul_right _ (by omega)
          go_wp2_with (at_builtin; refine wpList_append_own _ rfl _ _ 80 rfl w.heap.size 46 i0 z0 2 2 Try.underlying80 hi0 hz0 hs0 hb0 hc0 (by decide) _ _ _ rfl (hown.alloc _) ⟨wr.heap.size, 0, none⟩ 1 1 [.int .i8 x, .int .i8 y] rfl rfl ?c1 ?c2 ?c3 ?c4 ?c5 ?_)
          case c1 =>
            intro j u hj
            match j, hj with
            | 0, hj => simp at hj; subst hj; simp [Addr.add]
            | 1, hj => simp at hj; subst hj; simp [Addr.add]
          case c2 => intro u hu; simp at hu; rcases hu with rfl | rfl <;> rfl
          case c3 => unfold maxLen; omega
          case c4 => omega
          case c5 => simp; omega
          intro v' w1 hown' hgrow _
          rw [← spots_next W x y hlx] at hown'
          have hbg : Below w.heap.size w w1 := below_grown (Below.alloc hb2 (by omega) _) hgrow (owns_base hown) (by simp; omega)
          have HB := Lib.hid hbg
          have HW := Lib.hid hown'
          clear hbg hown' hgrow
          go_wp2
          go_roundw
          case rel => first | exact ⟨x + 1, by omega, by go_num, HB.out, HW.out⟩ | ((repeat (with_reducible apply Exists.intro)); refine And.intro ?_ ?_; rotate_left; focus ((repeat' (with_reducible apply And.intro)) <;> rfl); exact ⟨x + 1, by omega, by go_num, HB.out, HW.out⟩)
          case measure => simp [intOf]; omega
        · have HX := Lib.hid hown
          clear hown
          have hxe : x = W := by omega
          subst hxe
          go_wp2
          go_roundw
          case rel => first | exact ⟨y + 1, by omega, by go_num, hb2, by rw [Nat.succ_mul]; exact HX.out⟩ | ((repeat (with_reducible apply Exists.intro)); refine And.intro ?_ ?_; rotate_left; focus ((repeat' (with_reducible apply And.intro)) <;> rfl); exact ⟨y + 1, by omega, by go_num, hb2, by rw [Nat.succ_mul]; exact HX.out⟩)
          case measure => simp [intOf]; omega
    · have hye : y = H := by omega
      subst hye
      go_wp2
      go_ret
      exact ⟨_, rfl, HO.out, by repeat' (first | with_reducible exact Below.refl _ _ | with_reducible assumption | with_reducible refine Below.drew ?_ | with_reducible refine Below.drewN ?_ _ | with_reducible refine Below.alloc ?_ ?_ _ | with_reducible refine Below.setCell ?_ ?_ _ | with_reducible refine Below.setRow ?_ ?_ _ | with_reducible refine below_step (by assumption) ?_ ?_ | (show (_ : Nat) ≤ _; first | omega | (simp <;> omega)))⟩
/-- What is known at the head of a round over the cells that a slice holds: so far m was seen so often. -/
def CntR (c : Nat → Int) (W n : Nat) (m : Int) (w0 w1 : World) (i s : Value) (wr : World) : Prop := ∃ k : Nat, k ≤ n ∧ i = .int .i64 k ∧ s = .int .i64 (cnt c W m k) ∧ Below w0.heap.size w0 wr ∧ Below w1.heap.size w1 wr
set_option maxHeartbeats 2000000 in
theorem l07Count_any (p : Nat) (c : Nat → Int) (hf : FitPicture c) (W H : Nat) (hW : c 0 = W) (hH : c 1 = H) (W0 : 0 < W) (H0 : 0 < H) (W8 : W ≤ 8) (H8 : H ≤ 8) (m : Int) (w : World) (hr : rowOf w p = kc pk 66 c) (hp : p < w.heap.size) :
    Calls Try.prog 86 #[.pointer (some ⟨p, 0, none⟩), .int .u8 m] w fun e w' => e = .returned (.int .i64 (cnt c W m (H * W))) ∧ Below w.heap.size w w' := by
  have hn0 : 0 < H * W := Nat.mul_pos H0 W0
  have hnb : H * W ≤ 8 * W := Nat.mul_le_mul_right _ H8
  have hnb2 : H * W ≤ 64 := by omega
  generalize hn : H * W = n at *
  go_enter Try.func86, Try.ntmps86
  go_wp2_with (go_at_call 91; refine (l07Spots_any _ c hf W H hW hH W8 H8 _ (by (go_simp <;> (intros; omega))) (by first | omega | (simp <;> omega))).mono ?_; rintro e w1 ⟨v, rfl, hown, hb1⟩; rw [hn] at hown; obtain ⟨g, cap, rfl, hg, hgs, hcells⟩ := owns_some hown hn0; have HC := Lib.hid hcells; have HO := Lib.hid hown; clear hown hcells)
  go_loopw [7, 5] (fun i s wr => CntR c W n m w w1 i s wr) (fun i s wr => n - (intOf i).toNat)
  case atStart => exact ⟨0, by omega, rfl, rfl, by repeat' (first | with_reducible exact Below.refl _ _ | with_reducible assumption | with_reducible refine Below.drew ?_ | with_reducible refine Below.drewN ?_ _ | with_reducible refine Below.alloc ?_ ?_ _ | with_reducible refine Below.setCell ?_ ?_ _ | with_reducible refine Below.setRow ?_ ?_ _ | with_reducible refine below_step (by assumption) ?_ ?_ | (show (_ : Nat) ≤ _; first | omega | (simp <;> omega))), Below.refl _ _⟩
  case round =>
    obtain ⟨k, hk, rfl, rfl, hb, hb2⟩ := hrel
    have hrw : rowOf wr p = kc pk 66 c := (keep_row hb hp).trans hr
    have hpw : p < wr.heap.size := Nat.lt_of_lt_of_le hp hb.size
    have hsz2 := hb2.size
    have hsz1 := hb.size
    have hgr : rowOf wr g = rowOf w1 g := keep_row hb2 hgs
    have hgw : g < wr.heap.size := Nat.lt_of_lt_of_le hgs hb2.size
    by_cases hlt : k < n
    · obtain ⟨c1, c2⟩ := spots_drop W n k hlt
      have r1 := hgr ▸ HC.out _ _ c1
      have r2 := hgr ▸ HC.out _ _ c2
      obtain ⟨hx8, hy8, -, -⟩ := cell_at (k := k) W0 W8 H8 (by omega)
      have hci := cnt_in c W m k
      by_cases hv : c (2 + k / W * 8 + k % W) = m
      · have HN := Lib.hid (cnt_yes (n := k) hv)
        clear c1 c2 hgr
        generalize k % W = x at *
        generalize k / W = y at *
        generalize cnt c W m k = S at hci HN ⊢
        have hd : decide (c (2 + y * 8 + x) = m) = true := decide_eq_true hv
        go_wp2
        go_region
        go_wp2
        go_roundw
        case rel => first | exact ⟨k + 1, by omega, by go_num, by rw [HN.out], by repeat' (first | with_reducible exact Below.refl _ _ | with_reducible assumption | with_reducible refine Below.drew ?_ | with_reducible refine Below.drewN ?_ _ | with_reducible refine Below.alloc ?_ ?_ _ | with_reducible refine Below.setCell ?_ ?_ _ | with_reducible refine Below.setRow ?_ ?_ _ | with_reducible refine below_step (by assumption) ?_ ?_ | (show (_ : Nat) ≤ _; first | omega | (simp <;> omega))), by repeat' (first | with_reducible exact Below.refl _ _ | with_reducible assumption | with_reducible refine Below.drew ?_ | with_reducible refine Below.drewN ?_ _ | with_reducible refine Below.alloc ?_ ?_ _ | with_reducible refine Below.setCell ?_ ?_ _ | with_reducible refine Below.setRow ?_ ?_ _ | with_reducible refine below_step (by assumption) ?_ ?_ | (show (_ : Nat) ≤ _; first | omega | (simp <;> omega)))⟩ | ((repeat (with_reducible apply Exists.intro)); refine And.intro ?_ ?_; rotate_left; focus ((repeat' (with_reducible apply And.intro)) <;> rfl); exact ⟨k + 1, by omega, by go_num, by rw [HN.out], by repeat' (first | with_reducible exact Below.refl _ _ | with_reducible assumption | with_reducible refine Below.drew ?_ | with_reducible refine Below.drewN ?_ _ | with_reducible refine Below.alloc ?_ ?_ _ | with_reducible refine Below.setCell ?_ ?_ _ | with_reducible refine Below.setRow ?_ ?_ _ | with_reducible refine below_step (by assumption) ?_ ?_ | (show (_ : Nat) ≤ _; first | omega | (simp <;> omega))), by repeat' (first | with_reducible exact Below.refl _ _ | with_reducible assumption | with_reducible refine Below.drew ?_ | with_reducible refine Below.drewN ?_ _ | with_reducible refine Below.alloc ?_ ?_ _ | with_reducible refine Below.setCell ?_ ?_ _ | with_reducible refine Below.setRow ?_ ?_ _ | with_reducible refine below_step (by assumption) ?_ ?_ | (show (_ : Nat) ≤ _; first | omega | (simp <;> omega)))⟩)
        case measure => simp [intOf]; omega
      · have HN := Lib.hid (cnt_no (n := k) hv)
        clear c1 c2 hgr
        generalize k % W = x at *
        generalize k / W = y at *
        generalize cnt c W m k = S at hci HN ⊢
        have hd : decide (c (2 + y * 8 + x) = m) = false := decide_eq_false hv
        go_wp2
        go_region
        go_wp2
        go_roundw
        case rel => first | exact ⟨k + 1, by omega, by go_num, by rw [HN.out], by repeat' (first | with_reducible exact Below.refl _ _ | with_reducible assumption | with_reducible refine Below.drew ?_ | with_reducible refine Below.drewN ?_ _ | with_reducible refine Below.alloc ?_ ?_ _ | with_reducible refine Below.setCell ?_ ?_ _ | with_reducible refine Below.setRow ?_ ?_ _ | with_reducible refine below_step (by assumption) ?_ ?_ | (show (_ : Nat) ≤ _; first | omega | (simp <;> omega))), by repeat' (first | with_reducible exact Below.refl _ _ | with_reducible assumption | with_reducible refine Below.drew ?_ | with_reducible refine Below.drewN ?_ _ | with_reducible refine Below.alloc ?_ ?_ _ | with_reducible refine Below.setCell ?_ ?_ _ | with_reducible refine Below.setRow ?_ ?_ _ | with_reducible refine below_step (by assumption) ?_ ?_ | (show (_ : Nat) ≤ _; first | omega | (simp <;> omega)))⟩ | ((repeat (with_reducible apply Exists.intro)); refine And.intro ?_ ?_; rotate_left; focus ((repeat' (with_reducible apply And.intro)) <;> rfl); exact ⟨k + 1, by omega, by go_num, by rw [HN.out], by repeat' (first | with_reducible exact Below.refl _ _ | with_reducible assumption | with_reducible refine Below.drew ?_ | with_reducible refine Below.drewN ?_ _ | with_reducible refine Below.alloc ?_ ?_ _ | with_reducible refine Below.setCell ?_ ?_ _ | with_reducible refine Below.setRow ?_ ?_ _ | with_reducible refine below_step (by assumption) ?_ ?_ | (show (_ : Nat) ≤ _; first | omega | (simp <;> omega))), by repeat' (first | with_reducible exact Below.refl _ _ | with_reducible assumption | with_reducible refine Below.drew ?_ | with_reducible refine Below.drewN ?_ _ | with_reducible refine Below.alloc ?_ ?_ _ | with_reducible refine Below.setCell ?_ ?_ _ | with_reducible refine Below.setRow ?_ ?_ _ | with_reducible refine below_step (by assumption) ?_ ?_ | (show (_ : Nat) ≤ _; first | omega | (simp <;> omega)))⟩)
        case measure => simp [intOf]; omega
    · have hke : k = n := by omega
      subst hke
      go_wp2
      go_ret
      exact ⟨rfl, by repeat' (first | with_reducible exact Below.refl _ _ | with_reducible assumption | with_reducible refine Below.drew ?_ | with_reducible refine Below.drewN ?_ _ | with_reducible refine Below.alloc ?_ ?_ _ | with_reducible refine Below.setCell ?_ ?_ _ | with_reducible refine Below.setRow ?_ ?_ _ | with_reducible refine below_step (by assumption) ?_ ?_ | (show (_ : Nat) ≤ _; first | omega | (simp <;> omega)))⟩
end Go.Proofs.Ytigiooollonmjaa
