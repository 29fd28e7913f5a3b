/- Whether a sheet is valid: the program and the reference say alike. -/
import Derived.Test.YtejnejplofddnaaGreatDoorCell
namespace Go.Proofs.YtejnejplofddnaaGreatDoor
open Go.RowKit
set_option linter.unusedVariables false
set_option linter.unusedSimpArgs false
set_option maxRecDepth 100000

/-- Water and dye of a place are as told. -/
def CellW (c : Nat → Int) (y x : Nat) : Prop := (0 ≤ c (2 + y * 8 + x) ∧ c (2 + y * 8 + x) ≤ 200) ∧ (0 ≤ c (66 + y * 24 + x * 3) ∧ c (66 + y * 24 + x * 3) ≤ 1000) ∧ (0 ≤ c (66 + y * 24 + x * 3 + 1) ∧ c (66 + y * 24 + x * 3 + 1) ≤ 1000) ∧ (0 ≤ c (66 + y * 24 + x * 3 + 2) ∧ c (66 + y * 24 + x * 3 + 2) ≤ 1000)
  ∧ (c (2 + y * 8 + x) + c (66 + y * 24 + x * 3) + c (66 + y * 24 + x * 3 + 1) + c (66 + y * 24 + x * 3 + 2) = 0 ∨ (isP c x y = true ∧ waxS c x y = false))
open Classical in
noncomputable def cellW (c : Nat → Int) (y x : Nat) : Bool := decide (CellW c y x)
theorem cellW_true {c : Nat → Int} {y x : Nat} (h : CellW c y x) : cellW c y x = true := by simp [cellW, h]
theorem cellW_false {c : Nat → Int} {y x : Nat} (h : ¬ CellW c y x) : cellW c y x = false := by simp [cellW, h]
theorem cellW_iff {c : Nat → Int} {y x : Nat} : cellW c y x = true ↔ CellW c y x := by simp [cellW]

set_option maxHeartbeats 4000000 in
theorem l01Cell_any (p : Nat) (c : Nat → Int) (hf : FitSheet c) (x y : Nat) (hx : x < 8) (hy : y < 8) (w : World) (hr : rowOf w p = kc sk 266 c) (hp : p < w.heap.size) :
    Calls Tryz.prog 130 #[.pointer (some ⟨p, 0, none⟩), .agg #[.int .i8 x, .int .i8 y]] w fun e w' => e = .returned (.bool (cellW c y x)) ∧ Below w.heap.size w w' := by
  have hw0 := hf.cell (2 + y * 8 + x) (by omega) (by omega)
  have hd0 := hf.cell (66 + y * 24 + x * 3) (by omega) (by omega)
  have hd1 := hf.cell (66 + y * 24 + x * 3 + 1) (by omega) (by omega)
  have hd2 := hf.cell (66 + y * 24 + x * 3 + 2) (by omega) (by omega)
  by_cases gw : inB (c (2 + y * 8 + x)) 0 200 = true
  case neg =>
    go_enter Tryz.func130, Tryz.ntmps130
    go_wp2
    go_region
    go_wp2_with ((go_at_call 72; refine (l00In_any _ _ _ _).mono ?_; rintro e w1 ⟨rfl, rfl⟩))
    go_ret
    exact ⟨by rw [cellW_false (fun h => gw (inB_true.2 h.1))]; rfl, by repeat' (first | with_reducible exact Below.refl _ _ | with_reducible assumption | with_reducible refine Below.drew ?_ | with_reducible refine Below.drewN ?_ _ | with_reducible refine Below.alloc ?_ ?_ _ | with_reducible refine Below.setCell ?_ ?_ _ | with_reducible refine Below.setRow ?_ ?_ _ | with_reducible refine below_step (by assumption) ?_ ?_ | (show (_ : Nat) ≤ _; first | omega | (simp <;> omega)))⟩
  by_cases g0 : inB (c (66 + y * 24 + x * 3)) 0 1000 = true
  case neg =>
    go_enter Tryz.func130, Tryz.ntmps130
    go_wp2
    go_region
    go_wp2_with ((go_at_call 72; refine (l00In_any _ _ _ _).mono ?_; rintro e w1 ⟨rfl, rfl⟩))
    refine wp_loop_rounds 4 ?_; rw [rounds_succ]
    go_wp2
    go_region
    go_wp2_with (first | (rw [rounds_succ]) | (go_at_call 72; refine (l00In_any _ _ _ _).mono ?_; rintro e w1 ⟨rfl, rfl⟩))
    go_ret
    exact ⟨by rw [cellW_false (fun h => g0 (inB_true.2 h.2.1))]; rfl, by repeat' (first | with_reducible exact Below.refl _ _ | with_reducible assumption | with_reducible refine Below.drew ?_ | with_reducible refine Below.drewN ?_ _ | with_reducible refine Below.alloc ?_ ?_ _ | with_reducible refine Below.setCell ?_ ?_ _ | with_reducible refine Below.setRow ?_ ?_ _ | with_reducible refine below_step (by assumption) ?_ ?_ | (show (_ : Nat) ≤ _; first | omega | (simp <;> omega)))⟩
  by_cases g1 : inB (c (66 + y * 24 + x * 3 + 1)) 0 1000 = true
  case neg =>
    go_enter Tryz.func130, Tryz.ntmps130
    go_wp2
    go_region
    go_wp2_with ((go_at_call 72; refine (l00In_any _ _ _ _).mono ?_; rintro e w1 ⟨rfl, rfl⟩))
    refine wp_loop_rounds 4 ?_; rw [rounds_succ]
    go_wp2
    go_region
    go_wp2_with (first | (rw [rounds_succ]) | (go_at_call 72; refine (l00In_any _ _ _ _).mono ?_; rintro e w1 ⟨rfl, rfl⟩))
    go_region
    go_wp2_with (first | (rw [rounds_succ]) | (go_at_call 72; refine (l00In_any _ _ _ _).mono ?_; rintro e w1 ⟨rfl, rfl⟩))
    go_ret
    exact ⟨by rw [cellW_false (fun h => g1 (inB_true.2 h.2.2.1))]; rfl, by repeat' (first | with_reducible exact Below.refl _ _ | with_reducible assumption | with_reducible refine Below.drew ?_ | with_reducible refine Below.drewN ?_ _ | with_reducible refine Below.alloc ?_ ?_ _ | with_reducible refine Below.setCell ?_ ?_ _ | with_reducible refine Below.setRow ?_ ?_ _ | with_reducible refine below_step (by assumption) ?_ ?_ | (show (_ : Nat) ≤ _; first | omega | (simp <;> omega)))⟩
  by_cases g2 : inB (c (66 + y * 24 + x * 3 + 2)) 0 1000 = true
  case neg =>
    go_enter Tryz.func130, Tryz.ntmps130
    go_wp2
    go_region
    go_wp2_with ((go_at_call 72; refine (l00In_any _ _ _ _).mono ?_; rintro e w1 ⟨rfl, rfl⟩))
    refine wp_loop_rounds 4 ?_; rw [rounds_succ]
    go_wp2
    go_region
    go_wp2_with (first | (rw [rounds_succ]) | (go_at_call 72; refine (l00In_any _ _ _ _).mono ?_; rintro e w1 ⟨rfl, rfl⟩))
    go_region
    go_wp2_with (first | (rw [rounds_succ]) | (go_at_call 72; refine (l00In_any _ _ _ _).mono ?_; rintro e w1 ⟨rfl, rfl⟩))
    go_region
    go_wp2_with (first | (rw [rounds_succ]) | (go_at_call 72; refine (l00In_any _ _ _ _).mono ?_; rintro e w1 ⟨rfl, rfl⟩))
    go_ret
    exact ⟨by rw [cellW_false (fun h => g2 (inB_true.2 h.2.2.2.1))]; rfl, by repeat' (first | with_reducible exact Below.refl _ _ | with_reducible assumption | with_reducible refine Below.drew ?_ | with_reducible refine Below.drewN ?_ _ | with_reducible refine Below.alloc ?_ ?_ _ | with_reducible refine Below.setCell ?_ ?_ _ | with_reducible refine Below.setRow ?_ ?_ _ | with_reducible refine below_step (by assumption) ?_ ?_ | (show (_ : Nat) ≤ _; first | omega | (simp <;> omega)))⟩
  have HW := Lib.hid (inB_true.1 gw)
  have H0 := Lib.hid (inB_true.1 g0)
  have H1 := Lib.hid (inB_true.1 g1)
  have H2 := Lib.hid (inB_true.1 g2)
  by_cases hz : c (2 + y * 8 + x) + c (66 + y * 24 + x * 3) + c (66 + y * 24 + x * 3 + 1) + c (66 + y * 24 + x * 3 + 2) = 0
  case pos =>
    go_enter Tryz.func130, Tryz.ntmps130
    go_wp2
    go_region
    go_wp2_with ((go_at_call 72; refine (l00In_any _ _ _ _).mono ?_; rintro e w1 ⟨rfl, rfl⟩))
    refine wp_loop_rounds 4 ?_; rw [rounds_succ]
    go_wp2
    go_region
    go_wp2_with (first | (rw [rounds_succ]) | (go_at_call 72; refine (l00In_any _ _ _ _).mono ?_; rintro e w1 ⟨rfl, rfl⟩))
    go_region
    go_wp2_with (first | (rw [rounds_succ]) | (go_at_call 72; refine (l00In_any _ _ _ _).mono ?_; rintro e w1 ⟨rfl, rfl⟩))
    go_region
    go_wp2_with (first | (rw [rounds_succ]) | (go_at_call 72; refine (l00In_any _ _ _ _).mono ?_; rintro e w1 ⟨rfl, rfl⟩))
    go_ret
    exact ⟨by rw [cellW_true ⟨HW.out, H0.out, H1.out, H2.out, .inl hz⟩]; rfl, by repeat' (first | with_reducible exact Below.refl _ _ | with_reducible assumption | with_reducible refine Below.drew ?_ | with_reducible refine Below.drewN ?_ _ | with_reducible refine Below.alloc ?_ ?_ _ | with_reducible refine Below.setCell ?_ ?_ _ | with_reducible refine Below.setRow ?_ ?_ _ | with_reducible refine below_step (by assumption) ?_ ?_ | (show (_ : Nat) ≤ _; first | omega | (simp <;> omega)))⟩
  have hzd : decide (c (2 + y * 8 + x) + c (66 + y * 24 + x * 3) + c (66 + y * 24 + x * 3 + 1) + c (66 + y * 24 + x * 3 + 2) = 0) = false := decide_eq_false hz
  have hI := fun w hr hp => l01Is_any p c hf x y (by omega) (by omega) w hr hp
  have hX := fun w hr hp => l01Waxed_any p c hf x y hx hy w hr hp
  generalize hq : isP c x y = b1 at hI
  generalize hv : waxS c x y = b2 at hX
  have HQ := Lib.hid hq
  have HV := Lib.hid hv
  have HZ := Lib.hid hz
  have HI := Lib.hid hI
  have HX := Lib.hid hX
  clear hq hv hI hX
  go_enter Tryz.func130, Tryz.ntmps130
  go_wp2
  go_region
  go_wp2_with ((go_at_call 72; refine (l00In_any _ _ _ _).mono ?_; rintro e w1 ⟨rfl, rfl⟩))
  refine wp_loop_rounds 4 ?_; rw [rounds_succ]
  go_wp2
  go_region
  go_wp2_with (first | (rw [rounds_succ]) | (go_at_call 72; refine (l00In_any _ _ _ _).mono ?_; rintro e w1 ⟨rfl, rfl⟩))
  go_region
  go_wp2_with (first | (rw [rounds_succ]) | (go_at_call 72; refine (l00In_any _ _ _ _).mono ?_; rintro e w1 ⟨rfl, rfl⟩))
  go_region
  cases b1
  · go_wp2_with (first | (rw [rounds_succ]) | (go_at_call 72; refine (l00In_any _ _ _ _).mono ?_; rintro e w1 ⟨rfl, rfl⟩) | (go_at_call 129; refine (HI.out _ (by (go_simp <;> (intros; omega))) (by first | omega | (simp <;> omega))).mono ?_; rintro e w1 ⟨rfl, hb1⟩; have r1 := keep_rowA hb1; have f1 := keep_frA hb1; have s1 := hb1.size; (try simp only [World.size_alloc, World.size_setCell, setRow_size, World.size_drew, size_drewNm] at r1 f1 s1)) | (go_at_call 74; refine (HX.out _ (by (go_simp <;> (intros; omega))) (by first | omega | (simp <;> omega))).mono ?_; rintro e w1 ⟨rfl, hb1⟩; have r1 := keep_rowA hb1; have f1 := keep_frA hb1; have s1 := hb1.size; (try simp only [World.size_alloc, World.size_setCell, setRow_size, World.size_drew, size_drewNm] at r1 f1 s1)))
    go_ret
    exact ⟨by rw [cellW_false (fun h => by have := h.2.2.2.2; simp [HZ.out, HQ.out] at this)]; exact congrArg (fun b => Ending.returned (Value.bool b)) (beq_eq_false_iff_ne.2 HZ.out), by repeat' (first | with_reducible exact Below.refl _ _ | with_reducible assumption | with_reducible refine Below.drew ?_ | with_reducible refine Below.drewN ?_ _ | with_reducible refine Below.alloc ?_ ?_ _ | with_reducible refine Below.setCell ?_ ?_ _ | with_reducible refine Below.setRow ?_ ?_ _ | with_reducible refine below_step (by assumption) ?_ ?_ | (show (_ : Nat) ≤ _; first | omega | (simp <;> omega)))⟩
  · cases b2
    · go_wp2_with (first | (rw [rounds_succ]) | (go_at_call 72; refine (l00In_any _ _ _ _).mono ?_; rintro e w1 ⟨rfl, rfl⟩) | (go_at_call 129; refine (HI.out _ (by (go_simp <;> (intros; omega))) (by first | omega | (simp <;> omega))).mono ?_; rintro e w1 ⟨rfl, hb1⟩; have r1 := keep_rowA hb1; have f1 := keep_frA hb1; have s1 := hb1.size; (try simp only [World.size_alloc, World.size_setCell, setRow_size, World.size_drew, size_drewNm] at r1 f1 s1)) | (go_at_call 74; refine (HX.out _ (by (go_simp <;> (intros; omega))) (by first | omega | (simp <;> omega))).mono ?_; rintro e w1 ⟨rfl, hb1⟩; have r1 := keep_rowA hb1; have f1 := keep_frA hb1; have s1 := hb1.size; (try simp only [World.size_alloc, World.size_setCell, setRow_size, World.size_drew, size_drewNm] at r1 f1 s1)))
      go_ret
      exact ⟨by rw [cellW_true ⟨HW.out, H0.out, H1.out, H2.out, .inr ⟨HQ.out, HV.out⟩⟩]; rfl, by repeat' (first | with_reducible exact Below.refl _ _ | with_reducible assumption | with_reducible refine Below.drew ?_ | with_reducible refine Below.drewN ?_ _ | with_reducible refine Below.alloc ?_ ?_ _ | with_reducible refine Below.setCell ?_ ?_ _ | with_reducible refine Below.setRow ?_ ?_ _ | with_reducible refine below_step (by assumption) ?_ ?_ | (show (_ : Nat) ≤ _; first | omega | (simp <;> omega)))⟩
    · go_wp2_with (first | (rw [rounds_succ]) | (go_at_call 72; refine (l00In_any _ _ _ _).mono ?_; rintro e w1 ⟨rfl, rfl⟩) | (go_at_call 129; refine (HI.out _ (by (go_simp <;> (intros; omega))) (by first | omega | (simp <;> omega))).mono ?_; rintro e w1 ⟨rfl, hb1⟩; have r1 := keep_rowA hb1; have f1 := keep_frA hb1; have s1 := hb1.size; (try simp only [World.size_alloc, World.size_setCell, setRow_size, World.size_drew, size_drewNm] at r1 f1 s1)) | (go_at_call 74; refine (HX.out _ (by (go_simp <;> (intros; omega))) (by first | omega | (simp <;> omega))).mono ?_; rintro e w1 ⟨rfl, hb1⟩; have r1 := keep_rowA hb1; have f1 := keep_frA hb1; have s1 := hb1.size; (try simp only [World.size_alloc, World.size_setCell, setRow_size, World.size_drew, size_drewNm] at r1 f1 s1)))
      go_ret
      exact ⟨by rw [cellW_false (fun h => by have := h.2.2.2.2; simp [HZ.out, HQ.out, HV.out] at this)]; exact congrArg (fun b => Ending.returned (Value.bool b)) (beq_eq_false_iff_ne.2 HZ.out), by repeat' (first | with_reducible exact Below.refl _ _ | with_reducible assumption | with_reducible refine Below.drew ?_ | with_reducible refine Below.drewN ?_ _ | with_reducible refine Below.alloc ?_ ?_ _ | with_reducible refine Below.setCell ?_ ?_ _ | with_reducible refine Below.setRow ?_ ?_ _ | with_reducible refine below_step (by assumption) ?_ ?_ | (show (_ : Nat) ≤ _; first | omega | (simp <;> omega)))⟩
/-- A place is as it has to be; a sheet is valid. -/
def CellS (c : Nat → Int) (y x : Nat) : Prop := (isP c x y = true ∨ waxS c x y = false) ∧ CellW c y x
def OkS (c : Nat → Int) : Prop := (1 ≤ c 0 ∧ c 0 ≤ 8) ∧ (1 ≤ c 1 ∧ c 1 ≤ 8) ∧ ∀ y, y < 8 → ∀ x, x < 8 → CellS c y x
open Classical in
noncomputable def okS (c : Nat → Int) : Bool := decide (OkS c)
theorem okS_true {c : Nat → Int} (h : OkS c) : true = okS c := by simp [okS, h]
theorem okS_false {c : Nat → Int} (h : ¬ OkS c) : false = okS c := by simp [okS, h]
def RowsS (c : Nat → Int) (w : World) (i : Value) (wr : World) : Prop := ∃ y : Nat, y ≤ 8 ∧ i = .int .i8 y ∧ Below w.heap.size w wr ∧ ∀ y', y' < y → ∀ x, x < 8 → CellS c y' x
def CellsS (c : Nat → Int) (w : World) (y : Nat) (i : Value) (wr : World) : Prop := ∃ x : Nat, x ≤ 8 ∧ i = .int .i8 x ∧ Below w.heap.size w wr ∧ ∀ x', x' < x → CellS c y x'
theorem cellsS_next {c : Nat → Int} {y x : Nat} (h : ∀ x', x' < x → CellS c y x') (g : CellS c y x) : ∀ x', x' < x + 1 → CellS c y x' := fun x' hx' => by
  rcases Nat.lt_succ_iff_lt_or_eq.1 hx' with h' | rfl
  · exact h x' h'
  · exact g
theorem rowsS_next {c : Nat → Int} {y : Nat} (h : ∀ y', y' < y → ∀ x, x < 8 → CellS c y' x) (g : ∀ x, x < 8 → CellS c y x) : ∀ y', y' < y + 1 → ∀ x, x < 8 → CellS c y' x := fun y' hy' => by
  rcases Nat.lt_succ_iff_lt_or_eq.1 hy' with h' | rfl
  · exact h y' h'
  · exact g

set_option maxHeartbeats 4000000 in
theorem l01Ok_any (p : Nat) (c : Nat → Int) (hf : FitSheet c) (w : World) (hr : rowOf w p = kc sk 266 c) (hp : p < w.heap.size) :
    Calls Tryz.prog 93 #[.pointer (some ⟨p, 0, none⟩)] w fun e w' => e = .returned (.bool (okS c)) ∧ Below w.heap.size w w' := by
  have h0 := hf.side 0 (by omega)
  have h1 := hf.side 1 (by omega)
  by_cases hw : inB (c 0) 1 8 = true
  case neg =>
    go_enter Tryz.func93, Tryz.ntmps93
    go_wp2_with ((go_at_call 72; refine (l00In_any _ _ _ _).mono ?_; rintro e w1 ⟨rfl, rfl⟩))
    go_ret
    exact ⟨congrArg (fun b => Ending.returned (.bool b)) (okS_false (fun h => hw (inB_true.2 h.1))), by repeat' (first | with_reducible exact Below.refl _ _ | with_reducible assumption | with_reducible refine Below.drew ?_ | with_reducible refine Below.drewN ?_ _ | with_reducible refine Below.alloc ?_ ?_ _ | with_reducible refine Below.setCell ?_ ?_ _ | with_reducible refine Below.setRow ?_ ?_ _ | with_reducible refine below_step (by assumption) ?_ ?_ | (show (_ : Nat) ≤ _; first | omega | (simp <;> omega)))⟩
  by_cases hh : inB (c 1) 1 8 = true
  case neg =>
    go_enter Tryz.func93, Tryz.ntmps93
    go_wp2_with ((go_at_call 72; refine (l00In_any _ _ _ _).mono ?_; rintro e w1 ⟨rfl, rfl⟩))
    go_ret
    exact ⟨congrArg (fun b => Ending.returned (.bool b)) (okS_false (fun h => hh (inB_true.2 h.2.1))), by repeat' (first | with_reducible exact Below.refl _ _ | with_reducible assumption | with_reducible refine Below.drew ?_ | with_reducible refine Below.drewN ?_ _ | with_reducible refine Below.alloc ?_ ?_ _ | with_reducible refine Below.setCell ?_ ?_ _ | with_reducible refine Below.setRow ?_ ?_ _ | with_reducible refine below_step (by assumption) ?_ ?_ | (show (_ : Nat) ≤ _; first | omega | (simp <;> omega)))⟩
  go_enter Tryz.func93, Tryz.ntmps93
  go_wp2_with ((go_at_call 72; refine (l00In_any _ _ _ _).mono ?_; rintro e w1 ⟨rfl, rfl⟩))
  have HW := Lib.hid hw
  have HH := Lib.hid hh
  clear hw hh
  go_loopw [3] (fun i wr => RowsS c w i wr) (fun i wr => 8 - (intOf i).toNat)
  case atStart => exact ⟨0, by omega, rfl, by repeat' (first | with_reducible exact Below.refl _ _ | with_reducible assumption | with_reducible refine Below.drew ?_ | with_reducible refine Below.drewN ?_ _ | with_reducible refine Below.alloc ?_ ?_ _ | with_reducible refine Below.setCell ?_ ?_ _ | with_reducible refine Below.setRow ?_ ?_ _ | with_reducible refine below_step (by assumption) ?_ ?_ | (show (_ : Nat) ≤ _; first | omega | (simp <;> omega))), fun y' h => absurd h (by omega)⟩
  case round =>
    obtain ⟨y, hy, rfl, hb, hcells⟩ := hrel
    obtain ⟨wo, rfl⟩ : ∃ wo : World, wo = wr := ⟨_, rfl⟩
    have HC := Lib.hid hcells
    clear hcells
    by_cases hlt : y < 8
    · have hd8 : decide ((y : Int) < 8) = true := decide_eq_true (by omega)
      go_wp2
      go_loopw [4] (fun i wr => CellsS c w y i wr) (fun i wr => 8 - (intOf i).toNat)
      case atStart => exact ⟨0, by omega, rfl, by repeat' (first | with_reducible exact Below.refl _ _ | with_reducible assumption | with_reducible refine Below.drew ?_ | with_reducible refine Below.drewN ?_ _ | with_reducible refine Below.alloc ?_ ?_ _ | with_reducible refine Below.setCell ?_ ?_ _ | with_reducible refine Below.setRow ?_ ?_ _ | with_reducible refine below_step (by assumption) ?_ ?_ | (show (_ : Nat) ≤ _; first | omega | (simp <;> omega))), fun y' h => absurd h (by omega)⟩
      case round =>
        obtain ⟨x, hx, rfl, hb2, hcells⟩ := hrel
        have hrw : rowOf wr p = kc sk 266 c := (keep_row hb2 hp).trans hr
        have hpw : p < wr.heap.size := Nat.lt_of_lt_of_le hp hb2.size
        have hsz := hb2.size
        have HN := Lib.hid hcells
        clear hcells
        by_cases hlx : x < 8
        · have hI := fun w hr hp => l01Is_any p c hf x y (by omega) (by omega) w hr hp
          have hX := fun w hr hp => l01Waxed_any p c hf x y hlx hlt w hr hp
          have hL := fun w hr hp => l01Cell_any p c hf x y hlx hlt w hr hp
          generalize hq : isP c x y = b1 at hI
          generalize hv : waxS c x y = b2 at hX
          generalize hl : cellW c y x = b3 at hL
          have HQ := Lib.hid hq
          have HV := Lib.hid hv
          have HL := Lib.hid hl
          have HI := Lib.hid hI
          have HX := Lib.hid hX
          have HY := Lib.hid hL
          clear hq hv hI hX hl hL
          by_cases hbad : b1 = false ∧ b2 = true
          · obtain ⟨rfl, rfl⟩ := hbad
            go_wp2_with (first | (go_at_call 129; refine (HI.out _ (by (go_simp <;> (intros; omega))) (by first | omega | (simp <;> omega))).mono ?_; rintro e w1 ⟨rfl, hb1⟩; have r1 := keep_rowA hb1; have f1 := keep_frA hb1; have s1 := hb1.size; (try simp only [World.size_alloc, World.size_setCell, setRow_size, World.size_drew, size_drewNm] at r1 f1 s1)) | (go_at_call 74; refine (HX.out _ (by (go_simp <;> (intros; omega))) (by first | omega | (simp <;> omega))).mono ?_; rintro e w1 ⟨rfl, hb1⟩; have r1 := keep_rowA hb1; have f1 := keep_frA hb1; have s1 := hb1.size; (try simp only [World.size_alloc, World.size_setCell, setRow_size, World.size_drew, size_drewNm] at r1 f1 s1)) | (go_at_call 130; refine (HY.out _ (by (go_simp <;> (intros; omega))) (by first | omega | (simp <;> omega))).mono ?_; rintro e w1 ⟨rfl, hb1⟩; have r1 := keep_rowA hb1; have f1 := keep_frA hb1; have s1 := hb1.size; (try simp only [World.size_alloc, World.size_setCell, setRow_size, World.size_drew, size_drewNm] at r1 f1 s1)))
            go_ret
            exact ⟨congrArg (fun b => Ending.returned (.bool b)) (okS_false (fun h => by have := (h.2.2 y hlt x hlx).1; simp [HQ.out, HV.out] at this)), by repeat' (first | with_reducible exact Below.refl _ _ | with_reducible assumption | with_reducible refine Below.drew ?_ | with_reducible refine Below.drewN ?_ _ | with_reducible refine Below.alloc ?_ ?_ _ | with_reducible refine Below.setCell ?_ ?_ _ | with_reducible refine Below.setRow ?_ ?_ _ | with_reducible refine below_step (by assumption) ?_ ?_ | (show (_ : Nat) ≤ _; first | omega | (simp <;> omega)))⟩
          · have hfine : isP c x y = true ∨ waxS c x y = false := by rw [HQ.out, HV.out]; cases b1 <;> cases b2 <;> simp at hbad ⊢
            have HF := Lib.hid hfine
            have HB := Lib.hid hbad
            clear hfine hbad
            cases b3
            · cases b1
              · cases b2
                · go_wp2_with (first | (go_at_call 129; refine (HI.out _ (by (go_simp <;> (intros; omega))) (by first | omega | (simp <;> omega))).mono ?_; rintro e w1 ⟨rfl, hb1⟩; have r1 := keep_rowA hb1; have f1 := keep_frA hb1; have s1 := hb1.size; (try simp only [World.size_alloc, World.size_setCell, setRow_size, World.size_drew, size_drewNm] at r1 f1 s1)) | (go_at_call 74; refine (HX.out _ (by (go_simp <;> (intros; omega))) (by first | omega | (simp <;> omega))).mono ?_; rintro e w1 ⟨rfl, hb1⟩; have r1 := keep_rowA hb1; have f1 := keep_frA hb1; have s1 := hb1.size; (try simp only [World.size_alloc, World.size_setCell, setRow_size, World.size_drew, size_drewNm] at r1 f1 s1)) | (go_at_call 130; refine (HY.out _ (by (go_simp <;> (intros; omega))) (by first | omega | (simp <;> omega))).mono ?_; rintro e w1 ⟨rfl, hb1⟩; have r1 := keep_rowA hb1; have f1 := keep_frA hb1; have s1 := hb1.size; (try simp only [World.size_alloc, World.size_setCell, setRow_size, World.size_drew, size_drewNm] at r1 f1 s1)))
                  go_ret
                  exact ⟨congrArg (fun b => Ending.returned (.bool b)) (okS_false (fun h => by have := cellW_true (h.2.2 y hlt x hlx).2; simp [HL.out] at this)), by repeat' (first | with_reducible exact Below.refl _ _ | with_reducible assumption | with_reducible refine Below.drew ?_ | with_reducible refine Below.drewN ?_ _ | with_reducible refine Below.alloc ?_ ?_ _ | with_reducible refine Below.setCell ?_ ?_ _ | with_reducible refine Below.setRow ?_ ?_ _ | with_reducible refine below_step (by assumption) ?_ ?_ | (show (_ : Nat) ≤ _; first | omega | (simp <;> omega)))⟩
                · exact absurd ⟨rfl, rfl⟩ HB.out
              · go_wp2_with (first | (go_at_call 129; refine (HI.out _ (by (go_simp <;> (intros; omega))) (by first | omega | (simp <;> omega))).mono ?_; rintro e w1 ⟨rfl, hb1⟩; have r1 := keep_rowA hb1; have f1 := keep_frA hb1; have s1 := hb1.size; (try simp only [World.size_alloc, World.size_setCell, setRow_size, World.size_drew, size_drewNm] at r1 f1 s1)) | (go_at_call 74; refine (HX.out _ (by (go_simp <;> (intros; omega))) (by first | omega | (simp <;> omega))).mono ?_; rintro e w1 ⟨rfl, hb1⟩; have r1 := keep_rowA hb1; have f1 := keep_frA hb1; have s1 := hb1.size; (try simp only [World.size_alloc, World.size_setCell, setRow_size, World.size_drew, size_drewNm] at r1 f1 s1)) | (go_at_call 130; refine (HY.out _ (by (go_simp <;> (intros; omega))) (by first | omega | (simp <;> omega))).mono ?_; rintro e w1 ⟨rfl, hb1⟩; have r1 := keep_rowA hb1; have f1 := keep_frA hb1; have s1 := hb1.size; (try simp only [World.size_alloc, World.size_setCell, setRow_size, World.size_drew, size_drewNm] at r1 f1 s1)))
                go_ret
                exact ⟨congrArg (fun b => Ending.returned (.bool b)) (okS_false (fun h => by have := cellW_true (h.2.2 y hlt x hlx).2; simp [HL.out] at this)), by repeat' (first | with_reducible exact Below.refl _ _ | with_reducible assumption | with_reducible refine Below.drew ?_ | with_reducible refine Below.drewN ?_ _ | with_reducible refine Below.alloc ?_ ?_ _ | with_reducible refine Below.setCell ?_ ?_ _ | with_reducible refine Below.setRow ?_ ?_ _ | with_reducible refine below_step (by assumption) ?_ ?_ | (show (_ : Nat) ≤ _; first | omega | (simp <;> omega)))⟩
            · have HM := Lib.hid (cellsS_next HN.out ⟨HF.out, cellW_iff.1 HL.out⟩)
              cases b1
              · cases b2
                · go_wp2_with (first | (go_at_call 129; refine (HI.out _ (by (go_simp <;> (intros; omega))) (by first | omega | (simp <;> omega))).mono ?_; rintro e w1 ⟨rfl, hb1⟩; have r1 := keep_rowA hb1; have f1 := keep_frA hb1; have s1 := hb1.size; (try simp only [World.size_alloc, World.size_setCell, setRow_size, World.size_drew, size_drewNm] at r1 f1 s1)) | (go_at_call 74; refine (HX.out _ (by (go_simp <;> (intros; omega))) (by first | omega | (simp <;> omega))).mono ?_; rintro e w1 ⟨rfl, hb1⟩; have r1 := keep_rowA hb1; have f1 := keep_frA hb1; have s1 := hb1.size; (try simp only [World.size_alloc, World.size_setCell, setRow_size, World.size_drew, size_drewNm] at r1 f1 s1)) | (go_at_call 130; refine (HY.out _ (by (go_simp <;> (intros; omega))) (by first | omega | (simp <;> omega))).mono ?_; rintro e w1 ⟨rfl, hb1⟩; have r1 := keep_rowA hb1; have f1 := keep_frA hb1; have s1 := hb1.size; (try simp only [World.size_alloc, World.size_setCell, setRow_size, World.size_drew, size_drewNm] at r1 f1 s1)))
                  go_roundw
                  case rel => first | exact ⟨x + 1, by omega, by go_num, by repeat' (first | with_reducible exact Below.refl _ _ | with_reducible assumption | with_reducible refine Below.drew ?_ | with_reducible refine Below.drewN ?_ _ | with_reducible refine Below.alloc ?_ ?_ _ | with_reducible refine Below.setCell ?_ ?_ _ | with_reducible refine Below.setRow ?_ ?_ _ | with_reducible refine below_step (by assumption) ?_ ?_ | (show (_ : Nat) ≤ _; first | omega | (simp <;> omega))), HM.out⟩ | ((repeat (with_reducible apply Exists.intro)); refine And.intro ?_ ?_; rotate_left; (focus ((repeat' (with_reducible apply And.intro)) <;> rfl)); exact ⟨x + 1, by omega, by go_num, by repeat' (first | with_reducible exact Below.refl _ _ | with_reducible assumption | with_reducible refine Below.drew ?_ | with_reducible refine Below.drewN ?_ _ | with_reducible refine Below.alloc ?_ ?_ _ | with_reducible refine Below.setCell ?_ ?_ _ | with_reducible refine Below.setRow ?_ ?_ _ | with_reducible refine below_step (by assumption) ?_ ?_ | (show (_ : Nat) ≤ _; first | omega | (simp <;> omega))), HM.out⟩)
                  case measure => simp [intOf]; omega
                · exact absurd ⟨rfl, rfl⟩ HB.out
              · go_wp2_with (first | (go_at_call 129; refine (HI.out _ (by (go_simp <;> (intros; omega))) (by first | omega | (simp <;> omega))).mono ?_; rintro e w1 ⟨rfl, hb1⟩; have r1 := keep_rowA hb1; have f1 := keep_frA hb1; have s1 := hb1.size; (try simp only [World.size_alloc, World.size_setCell, setRow_size, World.size_drew, size_drewNm] at r1 f1 s1)) | (go_at_call 74; refine (HX.out _ (by (go_simp <;> (intros; omega))) (by first | omega | (simp <;> omega))).mono ?_; rintro e w1 ⟨rfl, hb1⟩; have r1 := keep_rowA hb1; have f1 := keep_frA hb1; have s1 := hb1.size; (try simp only [World.size_alloc, World.size_setCell, setRow_size, World.size_drew, size_drewNm] at r1 f1 s1)) | (go_at_call 130; refine (HY.out _ (by (go_simp <;> (intros; omega))) (by first | omega | (simp <;> omega))).mono ?_; rintro e w1 ⟨rfl, hb1⟩; have r1 := keep_rowA hb1; have f1 := keep_frA hb1; have s1 := hb1.size; (try simp only [World.size_alloc, World.size_setCell, setRow_size, World.size_drew, size_drewNm] at r1 f1 s1)))
                go_roundw
                case rel => first | exact ⟨x + 1, by omega, by go_num, by repeat' (first | with_reducible exact Below.refl _ _ | with_reducible assumption | with_reducible refine Below.drew ?_ | with_reducible refine Below.drewN ?_ _ | with_reducible refine Below.alloc ?_ ?_ _ | with_reducible refine Below.setCell ?_ ?_ _ | with_reducible refine Below.setRow ?_ ?_ _ | with_reducible refine below_step (by assumption) ?_ ?_ | (show (_ : Nat) ≤ _; first | omega | (simp <;> omega))), HM.out⟩ | ((repeat (with_reducible apply Exists.intro)); refine And.intro ?_ ?_; rotate_left; (focus ((repeat' (with_reducible apply And.intro)) <;> rfl)); exact ⟨x + 1, by omega, by go_num, by repeat' (first | with_reducible exact Below.refl _ _ | with_reducible assumption | with_reducible refine Below.drew ?_ | with_reducible refine Below.drewN ?_ _ | with_reducible refine Below.alloc ?_ ?_ _ | with_reducible refine Below.setCell ?_ ?_ _ | with_reducible refine Below.setRow ?_ ?_ _ | with_reducible refine below_step (by assumption) ?_ ?_ | (show (_ : Nat) ≤ _; first | omega | (simp <;> omega))), HM.out⟩)
                case measure => simp [intOf]; omega
        · go_wp2
          go_roundw
          have HM := rowsS_next HC.out (fun x' hx' => HN.out x' (by omega))
          case rel => first | exact ⟨y + 1, by omega, by go_num, by repeat' (first | with_reducible exact Below.refl _ _ | with_reducible assumption | with_reducible refine Below.drew ?_ | with_reducible refine Below.drewN ?_ _ | with_reducible refine Below.alloc ?_ ?_ _ | with_reducible refine Below.setCell ?_ ?_ _ | with_reducible refine Below.setRow ?_ ?_ _ | with_reducible refine below_step (by assumption) ?_ ?_ | (show (_ : Nat) ≤ _; first | omega | (simp <;> omega))), HM⟩ | ((repeat (with_reducible apply Exists.intro)); refine And.intro ?_ ?_; rotate_left; (focus ((repeat' (with_reducible apply And.intro)) <;> rfl)); exact ⟨y + 1, by omega, by go_num, by repeat' (first | with_reducible exact Below.refl _ _ | with_reducible assumption | with_reducible refine Below.drew ?_ | with_reducible refine Below.drewN ?_ _ | with_reducible refine Below.alloc ?_ ?_ _ | with_reducible refine Below.setCell ?_ ?_ _ | with_reducible refine Below.setRow ?_ ?_ _ | with_reducible refine below_step (by assumption) ?_ ?_ | (show (_ : Nat) ≤ _; first | omega | (simp <;> omega))), HM⟩)
          case measure => simp [intOf]; omega
    · go_wp2
      go_ret
      exact ⟨congrArg (fun b => Ending.returned (.bool b)) (okS_true ⟨inB_true.1 HW.out, inB_true.1 HH.out, fun y' h => HC.out y' (by omega)⟩), by repeat' (first | with_reducible exact Below.refl _ _ | with_reducible assumption | with_reducible refine Below.drew ?_ | with_reducible refine Below.drewN ?_ _ | with_reducible refine Below.alloc ?_ ?_ _ | with_reducible refine Below.setCell ?_ ?_ _ | with_reducible refine Below.setRow ?_ ?_ _ | with_reducible refine below_step (by assumption) ?_ ?_ | (show (_ : Nat) ≤ _; first | omega | (simp <;> omega)))⟩
end Go.Proofs.YtejnejplofddnaaGreatDoor
