/- Whether a picture is valid: the program and the reference say alike. -/
import Derived.Test.YtbnhhjjhjjmmjaaShapes
import Derived.Lib.Hide
namespace Go.Proofs.Ytbnhhjjhjjmmjaa
open Go.RowKit
set_option linter.unusedVariables false
set_option linter.unusedSimpArgs false
set_option maxRecDepth 100000

/-- A place of a picture is as it has to be. -/
def CellP (c : Nat → Int) (y x : Nat) : Prop := c (2 + y * 8 + x) ≤ 3 ∧ (0 < c (2 + y * 8 + x) → (x : Int) < c 0 ∧ (y : Int) < c 1)
def OkP (c : Nat → Int) : Prop := (1 ≤ c 0 ∧ c 0 ≤ 8) ∧ (1 ≤ c 1 ∧ c 1 ≤ 8) ∧ ∀ y, y < 8 → ∀ x, x < 8 → CellP c y x
open Classical in
noncomputable def okP (c : Nat → Int) : Bool := decide (OkP c)
theorem okP_true {c : Nat → Int} (h : OkP c) : true = okP c := by simp [okP, h]
theorem okP_false {c : Nat → Int} (h : ¬ OkP c) : false = okP c := by simp [okP, h]
/-- A picture has a place. -/
def isP (c : Nat → Int) (x y : Int) : Bool := inB x 0 (c 0 - 1) && inB y 0 (c 1 - 1)

theorem l00In_q (n lo hi : Int) (w : World) : Calls Try.prog 55 #[.int .i64 n, .int .i64 lo, .int .i64 hi] w fun e w' => e = .returned (.bool (inB n lo hi)) ∧ w' = w :=
  (l00In_any n lo hi w).mono fun _ _ h => ⟨h.1, h.2.symm⟩
set_option maxHeartbeats 1000000 in
theorem l07Is_any (p : Nat) (c : Nat → Int) (hf : FitPicture c) (x y : Int) (hx : -128 ≤ x ∧ x ≤ 127) (hy : -128 ≤ y ∧ y ≤ 127) (w : World) (hr : rowOf w p = kc pk 66 c) (hp : p < w.heap.size) :
    Calls Try.prog 80 #[.pointer (some ⟨p, 0, none⟩), .agg #[.int .i8 x, .int .i8 y]] w fun e w' => e = .returned (.bool (isP c x y)) ∧ Below w.heap.size w w' := by
  have h0 := hf.side 0 (by omega)
  have h1 := hf.side 1 (by omega)
  have hq0 : IntKind.i64.wrap (x) = x := IntWalk.i64_in _ (by omega); have hq1 : IntKind.i64.wrap (y) = y := IntWalk.i64_in _ (by omega); have hq2 : IntKind.i64.wrap (c 0) = c 0 := IntWalk.i64_in _ (by omega); have hq3 : IntKind.i64.wrap (c 1) = c 1 := IntWalk.i64_in _ (by omega); have hq4 : IntKind.i64.wrap (c 0 - 1) = c 0 - 1 := IntWalk.i64_in _ (by omega); have hq5 : IntKind.i64.wrap (c 1 - 1) = c 1 - 1 := IntWalk.i64_in _ (by omega)
  have hc0 := fun w => l00In_q x 0 (c 0 - 1) w
  generalize hb : inB x 0 (c 0 - 1) = b at hc0
  have HB := Lib.hid hb
  clear hb
  cases b
  all_goals
    go_enter Try.func80, Try.ntmps80
    go_wp2
    go_quiet ((go_at_call 55; first | with_reducible exact Calls.quiet_of_same (hc0 _) | exact Calls.quiet_of_same (l00In_q _ _ _ _)))
    go_wp2
    go_ret
    exact ⟨by simp [isP, HB.out], by repeat' (first | with_reducible exact Below.refl _ _ | with_reducible assumption | with_reducible refine Below.drew ?_ | with_reducible refine Below.drewN ?_ _ | with_reducible refine Below.alloc ?_ ?_ _ | with_reducible refine Below.setCell ?_ ?_ _ | with_reducible refine Below.setRow ?_ ?_ _ | with_reducible refine below_step (by assumption) ?_ ?_ | (show (_ : Nat) ≤ _; first | omega | (simp <;> omega)))⟩
/-- What is known at the head of a round over rows, over the cells of a row. -/
def RowsP (c : Nat → Int) (w : World) (i : Value) (wr : World) : Prop := ∃ y : Nat, y ≤ 8 ∧ i = .int .i8 y ∧ Below w.heap.size w wr ∧ ∀ y', y' < y → ∀ x, x < 8 → CellP c y' x
def CellsP (c : Nat → Int) (w : World) (y : Nat) (i : Value) (wr : World) : Prop := ∃ x : Nat, x ≤ 8 ∧ i = .int .i8 x ∧ Below w.heap.size w wr ∧ ∀ x', x' < x → CellP c y x'
theorem cells_next {c : Nat → Int} {y x : Nat} (h : ∀ x', x' < x → CellP c y x') (g : CellP c y x) : ∀ x', x' < x + 1 → CellP c y x' := fun x' hx' => by
  rcases Nat.lt_succ_iff_lt_or_eq.1 hx' with h' | rfl
  · exact h x' h'
  · exact g
theorem rows_next {c : Nat → Int} {y : Nat} (h : ∀ y', y' < y → ∀ x, x < 8 → CellP c y' x) (g : ∀ x, x < 8 → CellP c y x) : ∀ y', y' < y + 1 → ∀ x, x < 8 → CellP c y' x := fun y' hy' => by
  rcases Nat.lt_succ_iff_lt_or_eq.1 hy' with h' | rfl
  · exact h y' h'
  · exact g
theorem isP_true {c : Nat → Int} {x y : Nat} : isP c x y = true ↔ (x : Int) < c 0 ∧ (y : Int) < c 1 := by
  simp only [isP, Bool.and_eq_true, inB_true]; omega
theorem isP_false {c : Nat → Int} {x y : Nat} (h : isP c x y = false) : ¬ ((x : Int) < c 0 ∧ (y : Int) < c 1) := fun g => by
  rw [isP_true.2 g] at h; cases h

set_option maxHeartbeats 1000000 in
theorem l07Ok_any (p : Nat) (c : Nat → Int) (hf : FitPicture c) (w : World) (hr : rowOf w p = kc pk 66 c) (hp : p < w.heap.size) :
    Calls Try.prog 36 #[.pointer (some ⟨p, 0, none⟩)] w fun e w' => e = .returned (.bool (okP c)) ∧ Below w.heap.size w w' := by
  have h0 := hf.side 0 (by omega)
  have h1 := hf.side 1 (by omega)
  by_cases hw : inB (c 0) 1 8 = true
  case neg =>
    go_enter Try.func36, Try.ntmps36
    go_wp2_with ((go_at_call 55; refine (l00In_any _ _ _ _).mono ?_; rintro e w1 ⟨rfl, rfl⟩))
    go_ret
    exact ⟨congrArg (fun b => Ending.returned (.bool b)) (okP_false (fun h => hw (inB_true.2 h.1))), by repeat' (first | with_reducible exact Below.refl _ _ | with_reducible assumption | with_reducible refine Below.drew ?_ | with_reducible refine Below.drewN ?_ _ | with_reducible refine Below.alloc ?_ ?_ _ | with_reducible refine Below.setCell ?_ ?_ _ | with_reducible refine Below.setRow ?_ ?_ _ | with_reducible refine below_step (by assumption) ?_ ?_ | (show (_ : Nat) ≤ _; first | omega | (simp <;> omega)))⟩
  by_cases hh : inB (c 1) 1 8 = true
  case neg =>
    go_enter Try.func36, Try.ntmps36
    go_wp2_with ((go_at_call 55; refine (l00In_any _ _ _ _).mono ?_; rintro e w1 ⟨rfl, rfl⟩))
    go_ret
    exact ⟨congrArg (fun b => Ending.returned (.bool b)) (okP_false (fun h => hh (inB_true.2 h.2.1))), by repeat' (first | with_reducible exact Below.refl _ _ | with_reducible assumption | with_reducible refine Below.drew ?_ | with_reducible refine Below.drewN ?_ _ | with_reducible refine Below.alloc ?_ ?_ _ | with_reducible refine Below.setCell ?_ ?_ _ | with_reducible refine Below.setRow ?_ ?_ _ | with_reducible refine below_step (by assumption) ?_ ?_ | (show (_ : Nat) ≤ _; first | omega | (simp <;> omega)))⟩
  go_enter Try.func36, Try.ntmps36
  go_wp2_with ((go_at_call 55; refine (l00In_any _ _ _ _).mono ?_; rintro e w1 ⟨rfl, rfl⟩))
  have HW := Lib.hid hw
  have HH := Lib.hid hh
  clear hw hh
  go_loopw [3] (fun i wr => RowsP c w i wr) (fun i wr => 8 - (intOf i).toNat)
  case atStart => exact ⟨0, by omega, rfl, by repeat' (first | with_reducible exact Below.refl _ _ | with_reducible assumption | with_reducible refine Below.drew ?_ | with_reducible refine Below.drewN ?_ _ | with_reducible refine Below.alloc ?_ ?_ _ | with_reducible refine Below.setCell ?_ ?_ _ | with_reducible refine Below.setRow ?_ ?_ _ | with_reducible refine below_step (by assumption) ?_ ?_ | (show (_ : Nat) ≤ _; first | omega | (simp <;> omega))), fun y' h => absurd h (by omega)⟩
  case round =>
    obtain ⟨y, hy, rfl, hb, hcells⟩ := hrel
    obtain ⟨wo, rfl⟩ : ∃ wo : World, wo = wr := ⟨_, rfl⟩
    have HC := Lib.hid hcells
    clear hcells
    by_cases hlt : y < 8
    · have hd8 : decide ((y : Int) < 8) = true := decide_eq_true (by omega)
      go_wp2
      go_loopw [4] (fun i wr => CellsP c w y i wr) (fun i wr => 8 - (intOf i).toNat)
      case atStart => exact ⟨0, by omega, rfl, by repeat' (first | with_reducible exact Below.refl _ _ | with_reducible assumption | with_reducible refine Below.drew ?_ | with_reducible refine Below.drewN ?_ _ | with_reducible refine Below.alloc ?_ ?_ _ | with_reducible refine Below.setCell ?_ ?_ _ | with_reducible refine Below.setRow ?_ ?_ _ | with_reducible refine below_step (by assumption) ?_ ?_ | (show (_ : Nat) ≤ _; first | omega | (simp <;> omega))), fun y' h => absurd h (by omega)⟩
      case round =>
        obtain ⟨x, hx, rfl, hb2, hcells⟩ := hrel
        have hrw : rowOf wr p = kc pk 66 c := (keep_row hb2 hp).trans hr
        have hpw : p < wr.heap.size := Nat.lt_of_lt_of_le hp hb2.size
        have hsz := hb2.size
        have HX := Lib.hid hcells
        clear hcells
        by_cases hlx : x < 8
        · have hcell := hf.cell (2 + y * 8 + x) (by omega) (by omega)
          have hI := l07Is_any p c hf x y (by omega) (by omega) wr hrw hpw
          by_cases h3 : c (2 + y * 8 + x) ≤ 3
          · by_cases hz : 0 < c (2 + y * 8 + x)
            · generalize hq : isP c x y = b at hI
              have HQ := Lib.hid hq
              clear hq
              have HI := Lib.hid hI
              clear hI
              cases b
              · go_wp2_with (go_at_call 80; refine HI.out.mono ?_; rintro e w1 ⟨rfl, hb1⟩)
                go_ret
                exact ⟨congrArg (fun b => Ending.returned (.bool b)) (okP_false (fun h => isP_false HQ.out ((h.2.2 y hlt x hlx).2 hz))), by repeat' (first | with_reducible exact Below.refl _ _ | with_reducible assumption | with_reducible refine Below.drew ?_ | with_reducible refine Below.drewN ?_ _ | with_reducible refine Below.alloc ?_ ?_ _ | with_reducible refine Below.setCell ?_ ?_ _ | with_reducible refine Below.setRow ?_ ?_ _ | with_reducible refine below_step (by assumption) ?_ ?_ | (show (_ : Nat) ≤ _; first | omega | (simp <;> omega)))⟩
              · go_wp2_with (go_at_call 80; refine HI.out.mono ?_; rintro e w1 ⟨rfl, hb1⟩)
                go_roundw
                have HN := cells_next HX.out ⟨h3, fun _ => isP_true.1 HQ.out⟩
                case rel => first | exact ⟨x + 1, by omega, by go_num, by repeat' (first | with_reducible exact Below.refl _ _ | with_reducible assumption | with_reducible refine Below.drew ?_ | with_reducible refine Below.drewN ?_ _ | with_reducible refine Below.alloc ?_ ?_ _ | with_reducible refine Below.setCell ?_ ?_ _ | with_reducible refine Below.setRow ?_ ?_ _ | with_reducible refine below_step (by assumption) ?_ ?_ | (show (_ : Nat) ≤ _; first | omega | (simp <;> omega))), HN⟩ | ((repeat (with_reducible apply Exists.intro)); refine And.intro ?_ ?_; rotate_left; focus ((repeat' (with_reducible apply And.intro)) <;> rfl); exact ⟨x + 1, by omega, by go_num, by repeat' (first | with_reducible exact Below.refl _ _ | with_reducible assumption | with_reducible refine Below.drew ?_ | with_reducible refine Below.drewN ?_ _ | with_reducible refine Below.alloc ?_ ?_ _ | with_reducible refine Below.setCell ?_ ?_ _ | with_reducible refine Below.setRow ?_ ?_ _ | with_reducible refine below_step (by assumption) ?_ ?_ | (show (_ : Nat) ≤ _; first | omega | (simp <;> omega))), HN⟩)
                case measure => simp [intOf]; omega
            · clear hI
              go_wp2
              go_roundw
              have HN := cells_next HX.out ⟨h3, fun h => absurd h (by omega)⟩
              case rel => first | exact ⟨x + 1, by omega, by go_num, by repeat' (first | with_reducible exact Below.refl _ _ | with_reducible assumption | with_reducible refine Below.drew ?_ | with_reducible refine Below.drewN ?_ _ | with_reducible refine Below.alloc ?_ ?_ _ | with_reducible refine Below.setCell ?_ ?_ _ | with_reducible refine Below.setRow ?_ ?_ _ | with_reducible refine below_step (by assumption) ?_ ?_ | (show (_ : Nat) ≤ _; first | omega | (simp <;> omega))), HN⟩ | ((repeat (with_reducible apply Exists.intro)); refine And.intro ?_ ?_; rotate_left; focus ((repeat' (with_reducible apply And.intro)) <;> rfl); exact ⟨x + 1, by omega, by go_num, by repeat' (first | with_reducible exact Below.refl _ _ | with_reducible assumption | with_reducible refine Below.drew ?_ | with_reducible refine Below.drewN ?_ _ | with_reducible refine Below.alloc ?_ ?_ _ | with_reducible refine Below.setCell ?_ ?_ _ | with_reducible refine Below.setRow ?_ ?_ _ | with_reducible refine below_step (by assumption) ?_ ?_ | (show (_ : Nat) ≤ _; first | omega | (simp <;> omega))), HN⟩)
              case measure => simp [intOf]; omega
          · clear hI
            go_wp2
            go_ret
            exact ⟨congrArg (fun b => Ending.returned (.bool b)) (okP_false (fun h => absurd (h.2.2 y hlt x hlx).1 (by omega))), by repeat' (first | with_reducible exact Below.refl _ _ | with_reducible assumption | with_reducible refine Below.drew ?_ | with_reducible refine Below.drewN ?_ _ | with_reducible refine Below.alloc ?_ ?_ _ | with_reducible refine Below.setCell ?_ ?_ _ | with_reducible refine Below.setRow ?_ ?_ _ | with_reducible refine below_step (by assumption) ?_ ?_ | (show (_ : Nat) ≤ _; first | omega | (simp <;> omega)))⟩
        · go_wp2
          go_roundw
          have HN := rows_next HC.out (fun x' hx' => HX.out x' (by omega))
          case rel => first | exact ⟨y + 1, by omega, by go_num, by repeat' (first | with_reducible exact Below.refl _ _ | with_reducible assumption | with_reducible refine Below.drew ?_ | with_reducible refine Below.drewN ?_ _ | with_reducible refine Below.alloc ?_ ?_ _ | with_reducible refine Below.setCell ?_ ?_ _ | with_reducible refine Below.setRow ?_ ?_ _ | with_reducible refine below_step (by assumption) ?_ ?_ | (show (_ : Nat) ≤ _; first | omega | (simp <;> omega))), HN⟩ | ((repeat (with_reducible apply Exists.intro)); refine And.intro ?_ ?_; rotate_left; focus ((repeat' (with_reducible apply And.intro)) <;> rfl); exact ⟨y + 1, by omega, by go_num, by repeat' (first | with_reducible exact Below.refl _ _ | with_reducible assumption | with_reducible refine Below.drew ?_ | with_reducible refine Below.drewN ?_ _ | with_reducible refine Below.alloc ?_ ?_ _ | with_reducible refine Below.setCell ?_ ?_ _ | with_reducible refine Below.setRow ?_ ?_ _ | with_reducible refine below_step (by assumption) ?_ ?_ | (show (_ : Nat) ≤ _; first | omega | (simp <;> omega))), HN⟩)
          case measure => simp [intOf]; omega
    · go_wp2
      go_ret
      exact ⟨congrArg (fun b => Ending.returned (.bool b)) (okP_true ⟨inB_true.1 HW.out, inB_true.1 HH.out, fun y' h => HC.out y' (by omega)⟩), by repeat' (first | with_reducible exact Below.refl _ _ | with_reducible assumption | with_reducible refine Below.drew ?_ | with_reducible refine Below.drewN ?_ _ | with_reducible refine Below.alloc ?_ ?_ _ | with_reducible refine Below.setCell ?_ ?_ _ | with_reducible refine Below.setRow ?_ ?_ _ | with_reducible refine below_step (by assumption) ?_ ?_ | (show (_ : Nat) ≤ _; first | omega | (simp <;> omega)))⟩
/-- The same, with the call's own box: 'b' holds the picture. -/
def RowsI (c : Nat → Int) (w : World) (i : Value) (wr : World) : Prop := ∃ y : Nat, y ≤ 8 ∧ i = .int .i64 y ∧ Below w.heap.size w wr ∧ w.heap.size + 1 ≤ wr.heap.size ∧ rowOf wr w.heap.size = kc pk 66 c ∧ ∀ y', y' < y → ∀ x, x < 8 → CellP c y' x
def CellsI (c : Nat → Int) (w : World) (y : Nat) (i : Value) (wr : World) : Prop := ∃ x : Nat, x ≤ 8 ∧ i = .int .i64 x ∧ Below w.heap.size w wr ∧ w.heap.size + 1 ≤ wr.heap.size ∧ rowOf wr w.heap.size = kc pk 66 c ∧ ∀ x', x' < x → CellP c y x'
set_option maxHeartbeats 1000000 in
theorem iValidPicture_any (c : Nat → Int) (hf : FitPicture c) (w : World) : Calls Try.prog 39 #[.agg (kc pk 66 c)] w fun e w' => e = .returned (.bool (okP c)) ∧ Below w.heap.size w w' := by
  have h0 := hf.side 0 (by omega)
  have h1 := hf.side 1 (by omega)
  by_cases hw : inB (c 0) 1 8 = true
  case neg =>
    go_enter Try.func39, Try.ntmps39
    go_wp2_with ((go_at_call 58; refine (within_any _ _ _ _).mono ?_; rintro e w1 ⟨rfl, rfl⟩))
    go_ret
    exact ⟨congrArg (fun b => Ending.returned (.bool b)) (okP_false (fun h => hw (inB_true.2 h.1))), by repeat' (first | with_reducible exact Below.refl _ _ | with_reducible assumption | with_reducible refine Below.drew ?_ | with_reducible refine Below.drewN ?_ _ | with_reducible refine Below.alloc ?_ ?_ _ | with_reducible refine Below.setCell ?_ ?_ _ | with_reducible refine Below.setRow ?_ ?_ _ | with_reducible refine below_step (by assumption) ?_ ?_ | (show (_ : Nat) ≤ _; first | omega | (simp <;> omega)))⟩
  by_cases hh : inB (c 1) 1 8 = true
  case neg =>
    go_enter Try.func39, Try.ntmps39
    go_wp2_with ((go_at_call 58; refine (within_any _ _ _ _).mono ?_; rintro e w1 ⟨rfl, rfl⟩))
    go_ret
    exact ⟨congrArg (fun b => Ending.returned (.bool b)) (okP_false (fun h => hh (inB_true.2 h.2.1))), by repeat' (first | with_reducible exact Below.refl _ _ | with_reducible assumption | with_reducible refine Below.drew ?_ | with_reducible refine Below.drewN ?_ _ | with_reducible refine Below.alloc ?_ ?_ _ | with_reducible refine Below.setCell ?_ ?_ _ | with_reducible refine Below.setRow ?_ ?_ _ | with_reducible refine below_step (by assumption) ?_ ?_ | (show (_ : Nat) ≤ _; first | omega | (simp <;> omega)))⟩
  go_enter Try.func39, Try.ntmps39
  go_wp2_with ((go_at_call 58; refine (within_any _ _ _ _).mono ?_; rintro e w1 ⟨rfl, rfl⟩))
  have HW := Lib.hid hw
  have HH := Lib.hid hh
  clear hw hh
  go_loopw [21] (fun i wr => RowsI c w i wr) (fun i wr => 8 - (intOf i).toNat)
  case atStart => exact ⟨0, by omega, rfl, by repeat' (first | with_reducible exact Below.refl _ _ | with_reducible assumption | with_reducible refine Below.drew ?_ | with_reducible refine Below.drewN ?_ _ | with_reducible refine Below.alloc ?_ ?_ _ | with_reducible refine Below.setCell ?_ ?_ _ | with_reducible refine Below.setRow ?_ ?_ _ | with_reducible refine below_step (by assumption) ?_ ?_ | (show (_ : Nat) ≤ _; first | omega | (simp <;> omega))), by simp, by (go_simp <;> (intros; omega)), fun y' h => absurd h (by omega)⟩
  case round =>
    obtain ⟨y, hy, rfl, hb, hsz, hr0, hcells⟩ := hrel
    obtain ⟨wo, rfl⟩ : ∃ wo : World, wo = wr := ⟨_, rfl⟩
    have HC := Lib.hid hcells
    clear hcells
    by_cases hlt : y < 8
    · have hd8 : decide ((y : Int) < 8) = true := decide_eq_true (by omega)
      go_wp2
      go_loopw [26] (fun i wr => CellsI c w y i wr) (fun i wr => 8 - (intOf i).toNat)
      case atStart => exact ⟨0, by omega, rfl, by repeat' (first | with_reducible exact Below.refl _ _ | with_reducible assumption | with_reducible refine Below.drew ?_ | with_reducible refine Below.drewN ?_ _ | with_reducible refine Below.alloc ?_ ?_ _ | with_reducible refine Below.setCell ?_ ?_ _ | with_reducible refine Below.setRow ?_ ?_ _ | with_reducible refine below_step (by assumption) ?_ ?_ | (show (_ : Nat) ≤ _; first | omega | (simp <;> omega))), (by first | omega | (simp <;> omega)), by (go_simp <;> (intros; omega)), fun y' h => absurd h (by omega)⟩
      case round =>
        obtain ⟨x, hx, rfl, hb2, hsz2, hr2, hcells⟩ := hrel
        have HX := Lib.hid hcells
        clear hcells
        by_cases hlx : x < 8
        · have hcell := hf.cell (2 + y * 8 + x) (by omega) (by omega)
          have E := Lib.hid (show c (2 + y * 8 + x) = c (2 + (y * 8 + x)) by rw [Nat.add_assoc])
          rw [E.out] at hcell
          by_cases h3 : c (2 + (y * 8 + x)) ≤ 3
          · by_cases hz : 0 < c (2 + (y * 8 + x))
            · by_cases hx0 : (x : Int) < c 0
              · by_cases hy0 : (y : Int) < c 1
                · have HN := Lib.hid (cells_next HX.out (show CellP c y x from ⟨by rw [E.out]; exact h3, fun _ => ⟨hx0, hy0⟩⟩))
                  go_wp2
                  go_roundw
                  case rel => first | exact ⟨x + 1, by omega, by go_num, by repeat' (first | with_reducible exact Below.refl _ _ | with_reducible assumption | with_reducible refine Below.drew ?_ | with_reducible refine Below.drewN ?_ _ | with_reducible refine Below.alloc ?_ ?_ _ | with_reducible refine Below.setCell ?_ ?_ _ | with_reducible refine Below.setRow ?_ ?_ _ | with_reducible refine below_step (by assumption) ?_ ?_ | (show (_ : Nat) ≤ _; first | omega | (simp <;> omega))), (by first | omega | (simp <;> omega)), by (go_simp <;> (intros; omega)), HN.out⟩ | ((repeat (with_reducible apply Exists.intro)); refine And.intro ?_ ?_; rotate_left; focus ((repeat' (with_reducible apply And.intro)) <;> rfl); exact ⟨x + 1, by omega, by go_num, by repeat' (first | with_reducible exact Below.refl _ _ | with_reducible assumption | with_reducible refine Below.drew ?_ | with_reducible refine Below.drewN ?_ _ | with_reducible refine Below.alloc ?_ ?_ _ | with_reducible refine Below.setCell ?_ ?_ _ | with_reducible refine Below.setRow ?_ ?_ _ | with_reducible refine below_step (by assumption) ?_ ?_ | (show (_ : Nat) ≤ _; first | omega | (simp <;> omega))), (by first | omega | (simp <;> omega)), by (go_simp <;> (intros; omega)), HN.out⟩)
                  case measure => simp [intOf]; omega
                · have HN := Lib.hid (show ¬ OkP c from fun h => hy0 ((h.2.2 y hlt x hlx).2 (by rw [E.out]; exact hz)).2)
                  go_wp2
                  go_ret
                  exact ⟨congrArg (fun b => Ending.returned (.bool b)) (okP_false HN.out), by repeat' (first | with_reducible exact Below.refl _ _ | with_reducible assumption | with_reducible refine Below.drew ?_ | with_reducible refine Below.drewN ?_ _ | with_reducible refine Below.alloc ?_ ?_ _ | with_reducible refine Below.setCell ?_ ?_ _ | with_reducible refine Below.setRow ?_ ?_ _ | with_reducible refine below_step (by assumption) ?_ ?_ | (show (_ : Nat) ≤ _; first | omega | (simp <;> omega)))⟩
              · have HN := Lib.hid (show ¬ OkP c from fun h => hx0 ((h.2.2 y hlt x hlx).2 (by rw [E.out]; exact hz)).1)
                go_wp2
                go_ret
                exact ⟨congrArg (fun b => Ending.returned (.bool b)) (okP_false HN.out), by repeat' (first | with_reducible exact Below.refl _ _ | with_reducible assumption | with_reducible refine Below.drew ?_ | with_reducible refine Below.drewN ?_ _ | with_reducible refine Below.alloc ?_ ?_ _ | with_reducible refine Below.setCell ?_ ?_ _ | with_reducible refine Below.setRow ?_ ?_ _ | with_reducible refine below_step (by assumption) ?_ ?_ | (show (_ : Nat) ≤ _; first | omega | (simp <;> omega)))⟩
            · have HN := Lib.hid (cells_next HX.out (show CellP c y x from ⟨by rw [E.out]; exact h3, by rw [E.out]; exact fun h => absurd h hz⟩))
              go_wp2
              go_roundw
              case rel => first | exact ⟨x + 1, by omega, by go_num, by repeat' (first | with_reducible exact Below.refl _ _ | with_reducible assumption | with_reducible refine Below.drew ?_ | with_reducible refine Below.drewN ?_ _ | with_reducible refine Below.alloc ?_ ?_ _ | with_reducible refine Below.setCell ?_ ?_ _ | with_reducible refine Below.setRow ?_ ?_ _ | with_reducible refine below_step (by assumption) ?_ ?_ | (show (_ : Nat) ≤ _; first | omega | (simp <;> omega))), (by first | omega | (simp <;> omega)), by (go_simp <;> (intros; omega)), HN.out⟩ | ((repeat (with_reducible apply Exists.intro)); refine And.intro ?_ ?_; rotate_left; focus ((repeat' (with_reducible apply And.intro)) <;> rfl); exact ⟨x + 1, by omega, by go_num, by repeat' (first | with_reducible exact Below.refl _ _ | with_reducible assumption | with_reducible refine Below.drew ?_ | with_reducible refine Below.drewN ?_ _ | with_reducible refine Below.alloc ?_ ?_ _ | with_reducible refine Below.setCell ?_ ?_ _ | with_reducible refine Below.setRow ?_ ?_ _ | with_reducible refine below_step (by assumption) ?_ ?_ | (show (_ : Nat) ≤ _; first | omega | (simp <;> omega))), (by first | omega | (simp <;> omega)), by (go_simp <;> (intros; omega)), HN.out⟩)
              case measure => simp [intOf]; omega
          · have HN := Lib.hid (show ¬ OkP c from fun h => absurd (h.2.2 y hlt x hlx).1 (by rw [E.out]; exact h3))
            go_wp2
            go_ret
            exact ⟨congrArg (fun b => Ending.returned (.bool b)) (okP_false HN.out), by repeat' (first | with_reducible exact Below.refl _ _ | with_reducible assumption | with_reducible refine Below.drew ?_ | with_reducible refine Below.drewN ?_ _ | with_reducible refine Below.alloc ?_ ?_ _ | with_reducible refine Below.setCell ?_ ?_ _ | with_reducible refine Below.setRow ?_ ?_ _ | with_reducible refine below_step (by assumption) ?_ ?_ | (show (_ : Nat) ≤ _; first | omega | (simp <;> omega)))⟩
        · have HN := Lib.hid (rows_next HC.out (fun x' hx' => HX.out x' (by omega)))
          go_wp2
          go_roundw
          case rel => first | exact ⟨y + 1, by omega, by go_num, by repeat' (first | with_reducible exact Below.refl _ _ | with_reducible assumption | with_reducible refine Below.drew ?_ | with_reducible refine Below.drewN ?_ _ | with_reducible refine Below.alloc ?_ ?_ _ | with_reducible refine Below.setCell ?_ ?_ _ | with_reducible refine Below.setRow ?_ ?_ _ | with_reducible refine below_step (by assumption) ?_ ?_ | (show (_ : Nat) ≤ _; first | omega | (simp <;> omega))), (by first | omega | (simp <;> omega)), by (go_simp <;> (intros; omega)), HN.out⟩ | ((repeat (with_reducible apply Exists.intro)); refine And.intro ?_ ?_; rotate_left; focus ((repeat' (with_reducible apply And.intro)) <;> rfl); exact ⟨y + 1, by omega, by go_num, by repeat' (first | with_reducible exact Below.refl _ _ | with_reducible assumption | with_reducible refine Below.drew ?_ | with_reducible refine Below.drewN ?_ _ | with_reducible refine Below.alloc ?_ ?_ _ | with_reducible refine Below.setCell ?_ ?_ _ | with_reducible refine Below.setRow ?_ ?_ _ | with_reducible refine below_step (by assumption) ?_ ?_ | (show (_ : Nat) ≤ _; first | omega | (simp <;> omega))), (by first | omega | (simp <;> omega)), by (go_simp <;> (intros; omega)), HN.out⟩)
          case measure => simp [intOf]; omega
    · go_wp2
      go_ret
      exact ⟨congrArg (fun b => Ending.returned (.bool b)) (okP_true ⟨inB_true.1 HW.out, inB_true.1 HH.out, fun y' h => HC.out y' (by omega)⟩), by repeat' (first | with_reducible exact Below.refl _ _ | with_reducible assumption | with_reducible refine Below.drew ?_ | with_reducible refine Below.drewN ?_ _ | with_reducible refine Below.alloc ?_ ?_ _ | with_reducible refine Below.setCell ?_ ?_ _ | with_reducible refine Below.setRow ?_ ?_ _ | with_reducible refine below_step (by assumption) ?_ ?_ | (show (_ : Nat) ≤ _; first | omega | (simp <;> omega)))⟩
end Go.Proofs.Ytbnhhjjhjjmmjaa
