/- Contracts over a sheet that lies somewhere in a row: written by gen_at.py from those over a sheet alone in its block. -/
import Derived.Test.YtfcffihenmjafaaKx
import Derived.Test.YtfcffihenmjafaaSheetOk
import Derived.Test.YtfcffihenmjafaaWaterI
namespace Go.Proofs.Ytfcffihenmjafaa
open Go.RowKit
set_option linter.unusedVariables false
set_option linter.unusedSimpArgs false
set_option maxRecDepth 100000
set_option maxHeartbeats 1000000 in
theorem l01Is_at (p o : Nat) (R : Array Value) (c : Nat → Int) (hf : FitSheet c) (x y : Int) (hx : -128 ≤ x ∧ x ≤ 127) (hy : -128 ≤ y ∧ y ≤ 127) (w : World) (hr : rowOf w p = kx R o c) (hp : p < w.heap.size) :
    Calls Try.prog 90 #[.pointer (some ⟨p, o, none⟩), .agg #[.int .i8 x, .int .i8 y]] w fun e w' => e = .returned (.bool (isP c x y)) ∧ Below w.heap.size w w' := by
  have h0 := hf.side 0 (by omega)
  have h1 := hf.side 1 (by omega)
  have hq0 : IntKind.i64.wrap (x) = x := IntWalk.i64_in _ (by omega); have hq1 : IntKind.i64.wrap (y) = y := IntWalk.i64_in _ (by omega); have hq2 : IntKind.i64.wrap (c 0) = c 0 := IntWalk.i64_in _ (by omega); have hq3 : IntKind.i64.wrap (c 1) = c 1 := IntWalk.i64_in _ (by omega); have hq4 : IntKind.i64.wrap (c 0 - 1) = c 0 - 1 := IntWalk.i64_in _ (by omega); have hq5 : IntKind.i64.wrap (c 1 - 1) = c 1 - 1 := IntWalk.i64_in _ (by omega)
  have hc0 := fun w => l00In_q x 0 (c 0 - 1) w
  generalize hb : inB x 0 (c 0 - 1) = b at hc0
  have HB := Lib.hid hb
  clear hb
  cases b
  all_goals
    go_enter Try.func90, Try.ntmps90
    go_wp2
    go_quiet ((go_at_call 60; first | with_reducible exact Calls.quiet_of_same (hc0 _) | exact Calls.quiet_of_same (l00In_q _ _ _ _)))
    go_wp2
    go_ret
    exact ⟨by simp [isP, HB.out], by repeat' (first | with_reducible exact Below.refl _ _ | with_reducible assumption | with_reducible refine Below.drew ?_ | with_reducible refine Below.drewN ?_ _ | with_reducible refine Below.alloc ?_ ?_ _ | with_reducible refine Below.setCell ?_ ?_ _ | with_reducible refine Below.setRow ?_ ?_ _ | with_reducible refine below_step (by assumption) ?_ ?_ | (show (_ : Nat) ≤ _; first | omega | (simp <;> omega)))⟩
set_option maxHeartbeats 1000000 in
theorem l01Waxed_at (p o : Nat) (R : Array Value) (c : Nat → Int) (hf : FitSheet c) (x y : Nat) (hx : x < 8) (hy : y < 8) (w : World) (hr : rowOf w p = kx R o c) (hp : p < w.heap.size) :
    Calls Try.prog 91 #[.pointer (some ⟨p, o, none⟩), .agg #[.int .i8 x, .int .i8 y]] w fun e w' => e = .returned (.bool (waxS c x y)) ∧ Below w.heap.size w w' := by
  go_enter Try.func91, Try.ntmps91
  go_wp2
  go_quiet (fail)
  go_wp2
  go_ret
  exact ⟨rfl, by repeat' (first | with_reducible exact Below.refl _ _ | with_reducible assumption | with_reducible refine Below.drew ?_ | with_reducible refine Below.drewN ?_ _ | with_reducible refine Below.alloc ?_ ?_ _ | with_reducible refine Below.setCell ?_ ?_ _ | with_reducible refine Below.setRow ?_ ?_ _ | with_reducible refine below_step (by assumption) ?_ ?_ | (show (_ : Nat) ≤ _; first | omega | (simp <;> omega)))⟩
set_option maxHeartbeats 1000000 in
theorem wet_at (p o : Nat) (R : Array Value) (c : Nat → Int) (hf : FitSheet c) (x y : Nat) (hx : x < 8) (hy : y < 8) (w : World) (hr : rowOf w p = kx R o c) (hp : p < w.heap.size) :
    Calls Try.prog 96 #[.pointer (some ⟨p, o, none⟩), .agg #[.int .i8 x, .int .i8 y]] w fun e w' => e = .returned (.int .i64 (c (2 + y * 8 + x))) ∧ Below w.heap.size w w' := by
  have hc0 := hf.cell (2 + y * 8 + x) (by omega) (by omega)
  go_enter Try.func96, Try.ntmps96
  go_wp2
  go_quiet (fail)
  go_wp2
  go_ret
  exact ⟨rfl, by repeat' (first | with_reducible exact Below.refl _ _ | with_reducible assumption | with_reducible refine Below.drew ?_ | with_reducible refine Below.drewN ?_ _ | with_reducible refine Below.alloc ?_ ?_ _ | with_reducible refine Below.setCell ?_ ?_ _ | with_reducible refine Below.setRow ?_ ?_ _ | with_reducible refine below_step (by assumption) ?_ ?_ | (show (_ : Nat) ≤ _; first | omega | (simp <;> omega)))⟩
set_option maxHeartbeats 4000000 in
theorem l01Cell_at (p o : Nat) (R : Array Value) (c : Nat → Int) (hf : FitSheet c) (x y : Nat) (hx : x < 8) (hy : y < 8) (w : World) (hr : rowOf w p = kx R o c) (hp : p < w.heap.size) :
    Calls Try.prog 92 #[.pointer (some ⟨p, o, none⟩), .agg #[.int .i8 x, .int .i8 y]] w fun e w' => e = .returned (.bool (cellW c y x)) ∧ Below w.heap.size w w' := by
  have hw0 := hf.cell (2 + y * 8 + x) (by omega) (by omega)
  have hd0 := hf.cell (66 + y * 24 + x * 3) (by omega) (by omega)
  have hd1 := hf.cell (66 + y * 24 + x * 3 + 1) (by omega) (by omega)
  have hd2 := hf.cell (66 + y * 24 + x * 3 + 2) (by omega) (by omega)
  by_cases gw : inB (c (2 + y * 8 + x)) 0 200 = true
  case neg =>
    go_enter Try.func92, Try.ntmps92
    go_wp2
    go_region
    go_wp2_with ((go_at_call 60; refine (l00In_any _ _ _ _).mono ?_; rintro e w1 ⟨rfl, rfl⟩))
    go_ret
    exact ⟨by rw [cellW_false (fun h => gw (inB_true.2 h.1))]; rfl, by repeat' (first | with_reducible exact Below.refl _ _ | with_reducible assumption | with_reducible refine Below.drew ?_ | with_reducible refine Below.drewN ?_ _ | with_reducible refine Below.alloc ?_ ?_ _ | with_reducible refine Below.setCell ?_ ?_ _ | with_reducible refine Below.setRow ?_ ?_ _ | with_reducible refine below_step (by assumption) ?_ ?_ | (show (_ : Nat) ≤ _; first | omega | (simp <;> omega)))⟩
  by_cases g0 : inB (c (66 + y * 24 + x * 3)) 0 1000 = true
  case neg =>
    go_enter Try.func92, Try.ntmps92
    go_wp2
    go_region
    go_wp2_with ((go_at_call 60; refine (l00In_any _ _ _ _).mono ?_; rintro e w1 ⟨rfl, rfl⟩))
    refine wp_loop_rounds 4 ?_; rw [rounds_succ]
    go_wp2
    go_region
    go_wp2_with (first | (rw [rounds_succ]) | (go_at_call 60; refine (l00In_any _ _ _ _).mono ?_; rintro e w1 ⟨rfl, rfl⟩))
    go_ret
    exact ⟨by rw [cellW_false (fun h => g0 (inB_true.2 h.2.1))]; rfl, by repeat' (first | with_reducible exact Below.refl _ _ | with_reducible assumption | with_reducible refine Below.drew ?_ | with_reducible refine Below.drewN ?_ _ | with_reducible refine Below.alloc ?_ ?_ _ | with_reducible refine Below.setCell ?_ ?_ _ | with_reducible refine Below.setRow ?_ ?_ _ | with_reducible refine below_step (by assumption) ?_ ?_ | (show (_ : Nat) ≤ _; first | omega | (simp <;> omega)))⟩
  by_cases g1 : inB (c (66 + y * 24 + x * 3 + 1)) 0 1000 = true
  case neg =>
    go_enter Try.func92, Try.ntmps92
    go_wp2
    go_region
    go_wp2_with ((go_at_call 60; refine (l00In_any _ _ _ _).mono ?_; rintro e w1 ⟨rfl, rfl⟩))
    refine wp_loop_rounds 4 ?_; rw [rounds_succ]
    go_wp2
    go_region
    go_wp2_with (first | (rw [rounds_succ]) | (go_at_call 60; refine (l00In_any _ _ _ _).mono ?_; rintro e w1 ⟨rfl, rfl⟩))
    go_region
    go_wp2_with (first | (rw [rounds_succ]) | (go_at_call 60; refine (l00In_any _ _ _ _).mono ?_; rintro e w1 ⟨rfl, rfl⟩))
    go_ret
    exact ⟨by rw [cellW_false (fun h => g1 (inB_true.2 h.2.2.1))]; rfl, by repeat' (first | with_reducible exact Below.refl _ _ | with_reducible assumption | with_reducible refine Below.drew ?_ | with_reducible refine Below.drewN ?_ _ | with_reducible refine Below.alloc ?_ ?_ _ | with_reducible refine Below.setCell ?_ ?_ _ | with_reducible refine Below.setRow ?_ ?_ _ | with_reducible refine below_step (by assumption) ?_ ?_ | (show (_ : Nat) ≤ _; first | omega | (simp <;> omega)))⟩
  by_cases g2 : inB (c (66 + y * 24 + x * 3 + 2)) 0 1000 = true
  case neg =>
    go_enter Try.func92, Try.ntmps92
    go_wp2
    go_region
    go_wp2_with ((go_at_call 60; refine (l00In_any _ _ _ _).mono ?_; rintro e w1 ⟨rfl, rfl⟩))
    refine wp_loop_rounds 4 ?_; rw [rounds_succ]
    go_wp2
    go_region
    go_wp2_with (first | (rw [rounds_succ]) | (go_at_call 60; refine (l00In_any _ _ _ _).mono ?_; rintro e w1 ⟨rfl, rfl⟩))
    go_region
    go_wp2_with (first | (rw [rounds_succ]) | (go_at_call 60; refine (l00In_any _ _ _ _).mono ?_; rintro e w1 ⟨rfl, rfl⟩))
    go_region
    go_wp2_with (first | (rw [rounds_succ]) | (go_at_call 60; refine (l00In_any _ _ _ _).mono ?_; rintro e w1 ⟨rfl, rfl⟩))
    go_ret
    exact ⟨by rw [cellW_false (fun h => g2 (inB_true.2 h.2.2.2.1))]; rfl, by repeat' (first | with_reducible exact Below.refl _ _ | with_reducible assumption | with_reducible refine Below.drew ?_ | with_reducible refine Below.drewN ?_ _ | with_reducible refine Below.alloc ?_ ?_ _ | with_reducible refine Below.setCell ?_ ?_ _ | with_reducible refine Below.setRow ?_ ?_ _ | with_reducible refine below_step (by assumption) ?_ ?_ | (show (_ : Nat) ≤ _; first | omega | (simp <;> omega)))⟩
  have HW := Lib.hid (inB_true.1 gw)
  have H0 := Lib.hid (inB_true.1 g0)
  have H1 := Lib.hid (inB_true.1 g1)
  have H2 := Lib.hid (inB_true.1 g2)
  by_cases hz : c (2 + y * 8 + x) + c (66 + y * 24 + x * 3) + c (66 + y * 24 + x * 3 + 1) + c (66 + y * 24 + x * 3 + 2) = 0
  case pos =>
    go_enter Try.func92, Try.ntmps92
    go_wp2
    go_region
    go_wp2_with ((go_at_call 60; refine (l00In_any _ _ _ _).mono ?_; rintro e w1 ⟨rfl, rfl⟩))
    refine wp_loop_rounds 4 ?_; rw [rounds_succ]
    go_wp2
    go_region
    go_wp2_with (first | (rw [rounds_succ]) | (go_at_call 60; refine (l00In_any _ _ _ _).mono ?_; rintro e w1 ⟨rfl, rfl⟩))
    go_region
    go_wp2_with (first | (rw [rounds_succ]) | (go_at_call 60; refine (l00In_any _ _ _ _).mono ?_; rintro e w1 ⟨rfl, rfl⟩))
    go_region
    go_wp2_with (first | (rw [rounds_succ]) | (go_at_call 60; refine (l00In_any _ _ _ _).mono ?_; rintro e w1 ⟨rfl, rfl⟩))
    go_ret
    exact ⟨by rw [cellW_true ⟨HW.out, H0.out, H1.out, H2.out, .inl hz⟩]; rfl, by repeat' (first | with_reducible exact Below.refl _ _ | with_reducible assumption | with_reducible refine Below.drew ?_ | with_reducible refine Below.drewN ?_ _ | with_reducible refine Below.alloc ?_ ?_ _ | with_reducible refine Below.setCell ?_ ?_ _ | with_reducible refine Below.setRow ?_ ?_ _ | with_reducible refine below_step (by assumption) ?_ ?_ | (show (_ : Nat) ≤ _; first | omega | (simp <;> omega)))⟩
  have hzd : decide (c (2 + y * 8 + x) + c (66 + y * 24 + x * 3) + c (66 + y * 24 + x * 3 + 1) + c (66 + y * 24 + x * 3 + 2) = 0) = false := decide_eq_false hz
  have hI := fun w hr hp => l01Is_at p o R c hf x y (by omega) (by omega) w hr hp
  have hX := fun w hr hp => l01Waxed_at p o R c hf x y hx hy w hr hp
  generalize hq : isP c x y = b1 at hI
  generalize hv : waxS c x y = b2 at hX
  have HQ := Lib.hid hq
  have HV := Lib.hid hv
  have HZ := Lib.hid hz
  have HI := Lib.hid hI
  have HX := Lib.hid hX
  clear hq hv hI hX
  go_enter Try.func92, Try.ntmps92
  go_wp2
  go_region
  go_wp2_with ((go_at_call 60; refine (l00In_any _ _ _ _).mono ?_; rintro e w1 ⟨rfl, rfl⟩))
  refine wp_loop_rounds 4 ?_; rw [rounds_succ]
  go_wp2
  go_region
  go_wp2_with (first | (rw [rounds_succ]) | (go_at_call 60; refine (l00In_any _ _ _ _).mono ?_; rintro e w1 ⟨rfl, rfl⟩))
  go_region
  go_wp2_with (first | (rw [rounds_succ]) | (go_at_call 60; refine (l00In_any _ _ _ _).mono ?_; rintro e w1 ⟨rfl, rfl⟩))
  go_region
  cases b1
  · go_wp2_with (first | (rw [rounds_succ]) | (go_at_call 60; refine (l00In_any _ _ _ _).mono ?_; rintro e w1 ⟨rfl, rfl⟩) | (go_at_call 90; refine (HI.out _ (by (go_simp <;> (intros; omega))) (by first | omega | (simp <;> omega))).mono ?_; rintro e w1 ⟨rfl, hb1⟩; have r1 := keep_rowA hb1; have f1 := keep_frA hb1; have s1 := hb1.size; (try simp only [World.size_alloc, World.size_setCell, setRow_size, World.size_drew, size_drewNm] at r1 f1 s1)) | (go_at_call 91; refine (HX.out _ (by (go_simp <;> (intros; omega))) (by first | omega | (simp <;> omega))).mono ?_; rintro e w1 ⟨rfl, hb1⟩; have r1 := keep_rowA hb1; have f1 := keep_frA hb1; have s1 := hb1.size; (try simp only [World.size_alloc, World.size_setCell, setRow_size, World.size_drew, size_drewNm] at r1 f1 s1)))
    go_ret
    exact ⟨by rw [cellW_false (fun h => by have := h.2.2.2.2; simp [HZ.out, HQ.out] at this)]; exact congrArg (fun b => Ending.returned (Value.bool b)) (beq_eq_false_iff_ne.2 HZ.out), by repeat' (first | with_reducible exact Below.refl _ _ | with_reducible assumption | with_reducible refine Below.drew ?_ | with_reducible refine Below.drewN ?_ _ | with_reducible refine Below.alloc ?_ ?_ _ | with_reducible refine Below.setCell ?_ ?_ _ | with_reducible refine Below.setRow ?_ ?_ _ | with_reducible refine below_step (by assumption) ?_ ?_ | (show (_ : Nat) ≤ _; first | omega | (simp <;> omega)))⟩
  · cases b2
    · go_wp2_with (first | (rw [rounds_succ]) | (go_at_call 60; refine (l00In_any _ _ _ _).mono ?_; rintro e w1 ⟨rfl, rfl⟩) | (go_at_call 90; refine (HI.out _ (by (go_simp <;> (intros; omega))) (by first | omega | (simp <;> omega))).mono ?_; rintro e w1 ⟨rfl, hb1⟩; have r1 := keep_rowA hb1; have f1 := keep_frA hb1; have s1 := hb1.size; (try simp only [World.size_alloc, World.size_setCell, setRow_size, World.size_drew, size_drewNm] at r1 f1 s1)) | (go_at_call 91; refine (HX.out _ (by (go_simp <;> (intros; omega))) (by first | omega | (simp <;> omega))).mono ?_; rintro e w1 ⟨rfl, hb1⟩; have r1 := keep_rowA hb1; have f1 := keep_frA hb1; have s1 := hb1.size; (try simp only [World.size_alloc, World.size_setCell, setRow_size, World.size_drew, size_drewNm] at r1 f1 s1)))
      go_ret
      exact ⟨by rw [cellW_true ⟨HW.out, H0.out, H1.out, H2.out, .inr ⟨HQ.out, HV.out⟩⟩]; rfl, by repeat' (first | with_reducible exact Below.refl _ _ | with_reducible assumption | with_reducible refine Below.drew ?_ | with_reducible refine Below.drewN ?_ _ | with_reducible refine Below.alloc ?_ ?_ _ | with_reducible refine Below.setCell ?_ ?_ _ | with_reducible refine Below.setRow ?_ ?_ _ | with_reducible refine below_step (by assumption) ?_ ?_ | (show (_ : Nat) ≤ _; first | omega | (simp <;> omega)))⟩
    · go_wp2_with (first | (rw [rounds_succ]) | (go_at_call 60; refine (l00In_any _ _ _ _).mono ?_; rintro e w1 ⟨rfl, rfl⟩) | (go_at_call 90; refine (HI.out _ (by (go_simp <;> (intros; omega))) (by first | omega | (simp <;> omega))).mono ?_; rintro e w1 ⟨rfl, hb1⟩; have r1 := keep_rowA hb1; have f1 := keep_frA hb1; have s1 := hb1.size; (try simp only [World.size_alloc, World.size_setCell, setRow_size, World.size_drew, size_drewNm] at r1 f1 s1)) | (go_at_call 91; refine (HX.out _ (by (go_simp <;> (intros; omega))) (by first | omega | (simp <;> omega))).mono ?_; rintro e w1 ⟨rfl, hb1⟩; have r1 := keep_rowA hb1; have f1 := keep_frA hb1; have s1 := hb1.size; (try simp only [World.size_alloc, World.size_setCell, setRow_size, World.size_drew, size_drewNm] at r1 f1 s1)))
      go_ret
      exact ⟨by rw [cellW_false (fun h => by have := h.2.2.2.2; simp [HZ.out, HQ.out, HV.out] at this)]; exact congrArg (fun b => Ending.returned (Value.bool b)) (beq_eq_false_iff_ne.2 HZ.out), by repeat' (first | with_reducible exact Below.refl _ _ | with_reducible assumption | with_reducible refine Below.drew ?_ | with_reducible refine Below.drewN ?_ _ | with_reducible refine Below.alloc ?_ ?_ _ | with_reducible refine Below.setCell ?_ ?_ _ | with_reducible refine Below.setRow ?_ ?_ _ | with_reducible refine below_step (by assumption) ?_ ?_ | (show (_ : Nat) ≤ _; first | omega | (simp <;> omega)))⟩
set_option maxHeartbeats 4000000 in
theorem l01Ok_at (p o : Nat) (R : Array Value) (c : Nat → Int) (hf : FitSheet c) (w : World) (hr : rowOf w p = kx R o c) (hp : p < w.heap.size) :
    Calls Try.prog 44 #[.pointer (some ⟨p, o, none⟩)] w fun e w' => e = .returned (.bool (okS c)) ∧ Below w.heap.size w w' := by
  have h0 := hf.side 0 (by omega)
  have h1 := hf.side 1 (by omega)
  by_cases hw : inB (c 0) 1 8 = true
  case neg =>
    go_enter Try.func44, Try.ntmps44
    go_wp2_with ((go_at_call 60; refine (l00In_any _ _ _ _).mono ?_; rintro e w1 ⟨rfl, rfl⟩))
    go_ret
    exact ⟨congrArg (fun b => Ending.returned (.bool b)) (okS_false (fun h => hw (inB_true.2 h.1))), by repeat' (first | with_reducible exact Below.refl _ _ | with_reducible assumption | with_reducible refine Below.drew ?_ | with_reducible refine Below.drewN ?_ _ | with_reducible refine Below.alloc ?_ ?_ _ | with_reducible refine Below.setCell ?_ ?_ _ | with_reducible refine Below.setRow ?_ ?_ _ | with_reducible refine below_step (by assumption) ?_ ?_ | (show (_ : Nat) ≤ _; first | omega | (simp <;> omega)))⟩
  by_cases hh : inB (c 1) 1 8 = true
  case neg =>
    go_enter Try.func44, Try.ntmps44
    go_wp2_with ((go_at_call 60; refine (l00In_any _ _ _ _).mono ?_; rintro e w1 ⟨rfl, rfl⟩))
    go_ret
    exact ⟨congrArg (fun b => Ending.returned (.bool b)) (okS_false (fun h => hh (inB_true.2 h.2.1))), by repeat' (first | with_reducible exact Below.refl _ _ | with_reducible assumption | with_reducible refine Below.drew ?_ | with_reducible refine Below.drewN ?_ _ | with_reducible refine Below.alloc ?_ ?_ _ | with_reducible refine Below.setCell ?_ ?_ _ | with_reducible refine Below.setRow ?_ ?_ _ | with_reducible refine below_step (by assumption) ?_ ?_ | (show (_ : Nat) ≤ _; first | omega | (simp <;> omega)))⟩
  go_enter Try.func44, Try.ntmps44
  go_wp2_with ((go_at_call 60; refine (l00In_any _ _ _ _).mono ?_; rintro e w1 ⟨rfl, rfl⟩))
  have HW := Lib.hid hw
  have HH := Lib.hid hh
  clear hw hh
  go_loopw [3] (fun i wr => RowsS c w i wr) (fun i wr => 8 - (intOf i).toNat)
  case atStart => exact ⟨0, by omega, rfl, by repeat' (first | with_reducible exact Below.refl _ _ | with_reducible assumption | with_reducible refine Below.drew ?_ | with_reducible refine Below.drewN ?_ _ | with_reducible refine Below.alloc ?_ ?_ _ | with_reducible refine Below.setCell ?_ ?_ _ | with_reducible refine Below.setRow ?_ ?_ _ | with_reducible refine below_step (by assumption) ?_ ?_ | (show (_ : Nat) ≤ _; first | omega | (simp <;> omega))), fun y' h => absurd h (by omega)⟩
  case round =>
    obtain ⟨y, hy, rfl, hb, hcells⟩ := hrel
    obtain ⟨wo, rfl⟩ : ∃ wo : World, wo = wr := ⟨_, rfl⟩
    have HC := Lib.hid hcells
    clear hcells
    by_cases hlt : y < 8
    · have hd8 : decide ((y : Int) < 8) = true := decide_eq_true (by omega)
      go_wp2
      go_loopw [4] (fun i wr => CellsS c w y i wr) (fun i wr => 8 - (intOf i).toNat)
      case atStart => exact ⟨0, by omega, rfl, by repeat' (first | with_reducible exact Below.refl _ _ | with_reducible assumption | with_reducible refine Below.drew ?_ | with_reducible refine Below.drewN ?_ _ | with_reducible refine Below.alloc ?_ ?_ _ | with_reducible refine Below.setCell ?_ ?_ _ | with_reducible refine Below.setRow ?_ ?_ _ | with_reducible refine below_step (by assumption) ?_ ?_ | (show (_ : Nat) ≤ _; first | omega | (simp <;> omega))), fun y' h => absurd h (by omega)⟩
      case round =>
        obtain ⟨x, hx, rfl, hb2, hcells⟩ := hrel
        have hrw : rowOf wr p = kx R o c := (keep_row hb2 hp).trans hr
        have hpw : p < wr.heap.size := Nat.lt_of_lt_of_le hp hb2.size
        have hsz := hb2.size
        have HN := Lib.hid hcells
        clear hcells
        by_cases hlx : x < 8
        · have hI := fun w hr hp => l01Is_at p o R c hf x y (by omega) (by omega) w hr hp
          have hX := fun w hr hp => l01Waxed_at p o R c hf x y hlx hlt w hr hp
          have hL := fun w hr hp => l01Cell_at p o R c hf x y hlx hlt w hr hp
          generalize hq : isP c x y = b1 at hI
          generalize hv : waxS c x y = b2 at hX
          generalize hl : cellW c y x = b3 at hL
          have HQ := Lib.hid hq
          have HV := Lib.hid hv
          have HL := Lib.hid hl
          have HI := Lib.hid hI
          have HX := Lib.hid hX
          have HY := Lib.hid hL
          clear hq hv hI hX hl hL
          by_cases hbad : b1 = false ∧ b2 = true
          · obtain ⟨rfl, rfl⟩ := hbad
            go_wp2_with (first | (go_at_call 90; refine (HI.out _ (by (go_simp <;> (intros; omega))) (by first | omega | (simp <;> omega))).mono ?_; rintro e w1 ⟨rfl, hb1⟩; have r1 := keep_rowA hb1; have f1 := keep_frA hb1; have s1 := hb1.size; (try simp only [World.size_alloc, World.size_setCell, setRow_size, World.size_drew, size_drewNm] at r1 f1 s1)) | (go_at_call 91; refine (HX.out _ (by (go_simp <;> (intros; omega))) (by first | omega | (simp <;> omega))).mono ?_; rintro e w1 ⟨rfl, hb1⟩; have r1 := keep_rowA hb1; have f1 := keep_frA hb1; have s1 := hb1.size; (try simp only [World.size_alloc, World.size_setCell, setRow_size, World.size_drew, size_drewNm] at r1 f1 s1)) | (go_at_call 92; refine (HY.out _ (by (go_simp <;> (intros; omega))) (by first | omega | (simp <;> omega))).mono ?_; rintro e w1 ⟨rfl, hb1⟩; have r1 := keep_rowA hb1; have f1 := keep_frA hb1; have s1 := hb1.size; (try simp only [World.size_alloc, World.size_setCell, setRow_size, World.size_drew, size_drewNm] at r1 f1 s1)))
            go_ret
            exact ⟨congrArg (fun b => Ending.returned (.bool b)) (okS_false (fun h => by have := (h.2.2 y hlt x hlx).1; simp [HQ.out, HV.out] at this)), by repeat' (first | with_reducible exact Below.refl _ _ | with_reducible assumption | with_reducible refine Below.drew ?_ | with_reducible refine Below.drewN ?_ _ | with_reducible refine Below.alloc ?_ ?_ _ | with_reducible refine Below.setCell ?_ ?_ _ | with_reducible refine Below.setRow ?_ ?_ _ | with_reducible refine below_step (by assumption) ?_ ?_ | (show (_ : Nat) ≤ _; first | omega | (simp <;> omega)))⟩
          · have hfine : isP c x y = true ∨ waxS c x y = false := by rw [HQ.out, HV.out]; cases b1 <;> cases b2 <;> simp at hbad ⊢
            have HF := Lib.hid hfine
            have HB := Lib.hid hbad
            clear hfine hbad
            cases b3
            · cases b1
              · cases b2
                · go_wp2_with (first | (go_at_call 90; refine (HI.out _ (by (go_simp <;> (intros; omega))) (by first | omega | (simp <;> omega))).mono ?_; rintro e w1 ⟨rfl, hb1⟩; have r1 := keep_rowA hb1; have f1 := keep_frA hb1; have s1 := hb1.size; (try simp only [World.size_alloc, World.size_setCell, setRow_size, World.size_drew, size_drewNm] at r1 f1 s1)) | (go_at_call 91; refine (HX.out _ (by (go_simp <;> (intros; omega))) (by first | omega | (simp <;> omega))).mono ?_; rintro e w1 ⟨rfl, hb1⟩; have r1 := keep_rowA hb1; have f1 := keep_frA hb1; have s1 := hb1.size; (try simp only [World.size_alloc, World.size_setCell, setRow_size, World.size_drew, size_drewNm] at r1 f1 s1)) | (go_at_call 92; refine (HY.out _ (by (go_simp <;> (intros; omega))) (by first | omega | (simp <;> omega))).mono ?_; rintro e w1 ⟨rfl, hb1⟩; have r1 := keep_rowA hb1; have f1 := keep_frA hb1; have s1 := hb1.size; (try simp only [World.size_alloc, World.size_setCell, setRow_size, World.size_drew, size_drewNm] at r1 f1 s1)))
                  go_ret
                  exact ⟨congrArg (fun b => Ending.returned (.bool b)) (okS_false (fun h => by have := cellW_true (h.2.2 y hlt x hlx).2; simp [HL.out] at this)), by repeat' (first | with_reducible exact Below.refl _ _ | with_reducible assumption | with_reducible refine Below.drew ?_ | with_reducible refine Below.drewN ?_ _ | with_reducible refine Below.alloc ?_ ?_ _ | with_reducible refine Below.setCell ?_ ?_ _ | with_reducible refine Below.setRow ?_ ?_ _ | with_reducible refine below_step (by assumption) ?_ ?_ | (show (_ : Nat) ≤ _; first | omega | (simp <;> omega)))⟩
                · exact absurd ⟨rfl, rfl⟩ HB.out
              · go_wp2_with (first | (go_at_call 90; refine (HI.out _ (by (go_simp <;> (intros; omega))) (by first | omega | (simp <;> omega))).mono ?_; rintro e w1 ⟨rfl, hb1⟩; have r1 := keep_rowA hb1; have f1 := keep_frA hb1; have s1 := hb1.size; (try simp only [World.size_alloc, World.size_setCell, setRow_size, World.size_drew, size_drewNm] at r1 f1 s1)) | (go_at_call 91; refine (HX.out _ (by (go_simp <;> (intros; omega))) (by first | omega | (simp <;> omega))).mono ?_; rintro e w1 ⟨rfl, hb1⟩; have r1 := keep_rowA hb1; have f1 := keep_frA hb1; have s1 := hb1.size; (try simp only [World.size_alloc, World.size_setCell, setRow_size, World.size_drew, size_drewNm] at r1 f1 s1)) | (go_at_call 92; refine (HY.out _ (by (go_simp <;> (intros; omega))) (by first | omega | (simp <;> omega))).mono ?_; rintro e w1 ⟨rfl, hb1⟩; have r1 := keep_rowA hb1; have f1 := keep_frA hb1; have s1 := hb1.size; (try simp only [World.size_alloc, World.size_setCell, setRow_size, World.size_drew, size_drewNm] at r1 f1 s1)))
                go_ret
                exact ⟨congrArg (fun b => Ending.returned (.bool b)) (okS_false (fun h => by have := cellW_true (h.2.2 y hlt x hlx).2; simp [HL.out] at this)), by repeat' (first | with_reducible exact Below.refl _ _ | with_reducible assumption | with_reducible refine Below.drew ?_ | with_reducible refine Below.drewN ?_ _ | with_reducible refine Below.alloc ?_ ?_ _ | with_reducible refine Below.setCell ?_ ?_ _ | with_reducible refine Below.setRow ?_ ?_ _ | with_reducible refine below_step (by assumption) ?_ ?_ | (show (_ : Nat) ≤ _; first | omega | (simp <;> omega)))⟩
            · have HM := Lib.hid (cellsS_next HN.out ⟨HF.out, cellW_iff.1 HL.out⟩)
              cases b1
              · cases b2
                · go_wp2_with (first | (go_at_call 90; refine (HI.out _ (by (go_simp <;> (intros; omega))) (by first | omega | (simp <;> omega))).mono ?_; rintro e w1 ⟨rfl, hb1⟩; have r1 := keep_rowA hb1; have f1 := keep_frA hb1; have s1 := hb1.size; (try simp only [World.size_alloc, World.size_setCell, setRow_size, World.size_drew, size_drewNm] at r1 f1 s1)) | (go_at_call 91; refine (HX.out _ (by (go_simp <;> (intros; omega))) (by first | omega | (simp <;> omega))).mono ?_; rintro e w1 ⟨rfl, hb1⟩; have r1 := keep_rowA hb1; have f1 := keep_frA hb1; have s1 := hb1.size; (try simp only [World.size_alloc, World.size_setCell, setRow_size, World.size_drew, size_drewNm] at r1 f1 s1)) | (go_at_call 92; refine (HY.out _ (by (go_simp <;> (intros; omega))) (by first | omega | (simp <;> omega))).mono ?_; rintro e w1 ⟨rfl, hb1⟩; have r1 := keep_rowA hb1; have f1 := keep_frA hb1; have s1 := hb1.size; (try simp only [World.size_alloc, World.size_setCell, setRow_size, World.size_drew, size_drewNm] at r1 f1 s1)))
                  go_roundw
                  case rel => first | exact ⟨x + 1, by omega, by go_num, by repeat' (first | with_reducible exact Below.refl _ _ | with_reducible assumption | with_reducible refine Below.drew ?_ | with_reducible refine Below.drewN ?_ _ | with_reducible refine Below.alloc ?_ ?_ _ | with_reducible refine Below.setCell ?_ ?_ _ | with_reducible refine Below.setRow ?_ ?_ _ | with_reducible refine below_step (by assumption) ?_ ?_ | (show (_ : Nat) ≤ _; first | omega | (simp <;> omega))), HM.out⟩ | ((repeat (with_reducible apply Exists.intro)); refine And.intro ?_ ?_; rotate_left; focus ((repeat' (with_reducible apply And.intro)) <;> rfl); exact ⟨x + 1, by omega, by go_num, by repeat' (first | with_reducible exact Below.refl _ _ | with_reducible assumption | with_reducible refine Below.drew ?_ | with_reducible refine Below.drewN ?_ _ | with_reducible refine Below.alloc ?_ ?_ _ | with_reducible refine Below.setCell ?_ ?_ _ | with_reducible refine Below.setRow ?_ ?_ _ | with_reducible refine below_step (by assumption) ?_ ?_ | (show (_ : Nat) ≤ _; first | omega | (simp <;> omega))), HM.out⟩)
                  case measure => simp [intOf]; omega
                · exact absurd ⟨rfl, rfl⟩ HB.out
              · go_wp2_with (first | (go_at_call 90; refine (HI.out _ (by (go_simp <;> (intros; omega))) (by first | omega | (simp <;> omega))).mono ?_; rintro e w1 ⟨rfl, hb1⟩; have r1 := keep_rowA hb1; have f1 := keep_frA hb1; have s1 := hb1.size; (try simp only [World.size_alloc, World.size_setCell, setRow_size, World.size_drew, size_drewNm] at r1 f1 s1)) | (go_at_call 91; refine (HX.out _ (by (go_simp <;> (intros; omega))) (by first | omega | (simp <;> omega))).mono ?_; rintro e w1 ⟨rfl, hb1⟩; have r1 := keep_rowA hb1; have f1 := keep_frA hb1; have s1 := hb1.size; (try simp only [World.size_alloc, World.size_setCell, setRow_size, World.size_drew, size_drewNm] at r1 f1 s1)) | (go_at_call 92; refine (HY.out _ (by (go_simp <;> (intros; omega))) (by first | omega | (simp <;> omega))).mono ?_; rintro e w1 ⟨rfl, hb1⟩; have r1 := keep_rowA hb1; have f1 := keep_frA hb1; have s1 := hb1.size; (try simp only [World.size_alloc, World.size_setCell, setRow_size, World.size_drew, size_drewNm] at r1 f1 s1)))
                go_roundw
                case rel => first | exact ⟨x + 1, by omega, by go_num, by repeat' (first | with_reducible exact Below.refl _ _ | with_reducible assumption | with_reducible refine Below.drew ?_ | with_reducible refine Below.drewN ?_ _ | with_reducible refine Below.alloc ?_ ?_ _ | with_reducible refine Below.setCell ?_ ?_ _ | with_reducible refine Below.setRow ?_ ?_ _ | with_reducible refine below_step (by assumption) ?_ ?_ | (show (_ : Nat) ≤ _; first | omega | (simp <;> omega))), HM.out⟩ | ((repeat (with_reducible apply Exists.intro)); refine And.intro ?_ ?_; rotate_left; focus ((repeat' (with_reducible apply And.intro)) <;> rfl); exact ⟨x + 1, by omega, by go_num, by repeat' (first | with_reducible exact Below.refl _ _ | with_reducible assumption | with_reducible refine Below.drew ?_ | with_reducible refine Below.drewN ?_ _ | with_reducible refine Below.alloc ?_ ?_ _ | with_reducible refine Below.setCell ?_ ?_ _ | with_reducible refine Below.setRow ?_ ?_ _ | with_reducible refine below_step (by assumption) ?_ ?_ | (show (_ : Nat) ≤ _; first | omega | (simp <;> omega))), HM.out⟩)
                case measure => simp [intOf]; omega
        · go_wp2
          go_roundw
          have HM := rowsS_next HC.out (fun x' hx' => HN.out x' (by omega))
          case rel => first | exact ⟨y + 1, by omega, by go_num, by repeat' (first | with_reducible exact Below.refl _ _ | with_reducible assumption | with_reducible refine Below.drew ?_ | with_reducible refine Below.drewN ?_ _ | with_reducible refine Below.alloc ?_ ?_ _ | with_reducible refine Below.setCell ?_ ?_ _ | with_reducible refine Below.setRow ?_ ?_ _ | with_reducible refine below_step (by assumption) ?_ ?_ | (show (_ : Nat) ≤ _; first | omega | (simp <;> omega))), HM⟩ | ((repeat (with_reducible apply Exists.intro)); refine And.intro ?_ ?_; rotate_left; focus ((repeat' (with_reducible apply And.intro)) <;> rfl); exact ⟨y + 1, by omega, by go_num, by repeat' (first | with_reducible exact Below.refl _ _ | with_reducible assumption | with_reducible refine Below.drew ?_ | with_reducible refine Below.drewN ?_ _ | with_reducible refine Below.alloc ?_ ?_ _ | with_reducible refine Below.setCell ?_ ?_ _ | with_reducible refine Below.setRow ?_ ?_ _ | with_reducible refine below_step (by assumption) ?_ ?_ | (show (_ : Nat) ≤ _; first | omega | (simp <;> omega))), HM⟩)
          case measure => simp [intOf]; omega
    · go_wp2
      go_ret
      exact ⟨congrArg (fun b => Ending.returned (.bool b)) (okS_true ⟨inB_true.1 HW.out, inB_true.1 HH.out, fun y' h => HC.out y' (by omega)⟩), by repeat' (first | with_reducible exact Below.refl _ _ | with_reducible assumption | with_reducible refine Below.drew ?_ | with_reducible refine Below.drewN ?_ _ | with_reducible refine Below.alloc ?_ ?_ _ | with_reducible refine Below.setCell ?_ ?_ _ | with_reducible refine Below.setRow ?_ ?_ _ | with_reducible refine below_step (by assumption) ?_ ?_ | (show (_ : Nat) ≤ _; first | omega | (simp <;> omega)))⟩
set_option maxHeartbeats 1000000 in
theorem l01Water_at (p o : Nat) (R : Array Value) (c : Nat → Int) (hf : FitSheet c) (w : World) (hr : rowOf w p = kx R o c) (hp : p < w.heap.size) :
    Calls Try.prog 57 #[.pointer (some ⟨p, o, none⟩)] w fun e w' => e = .returned (.int .i64 (sumTo (wetF c) 64)) ∧ Below w.heap.size w w' := by
  go_enter Try.func57, Try.ntmps57
  go_wp2
  go_loopw [4, 3] (fun i s wr => SumR c w i s wr) (fun i s wr => 8 - (intOf i).toNat)
  case atStart => exact ⟨0, by omega, rfl, rfl, by repeat' (first | with_reducible exact Below.refl _ _ | with_reducible assumption | with_reducible refine Below.drew ?_ | with_reducible refine Below.drewN ?_ _ | with_reducible refine Below.alloc ?_ ?_ _ | with_reducible refine Below.setCell ?_ ?_ _ | with_reducible refine Below.setRow ?_ ?_ _ | with_reducible refine below_step (by assumption) ?_ ?_ | (show (_ : Nat) ≤ _; first | omega | (simp <;> omega)))⟩
  case round =>
    obtain ⟨y, hy, rfl, rfl, hb⟩ := hrel
    obtain ⟨wo, rfl⟩ : ∃ wo : World, wo = wr := ⟨_, rfl⟩
    by_cases hlt : y < 8
    · have hd8 : decide ((y : Int) < 8) = true := decide_eq_true (by omega)
      go_wp2
      go_loopw [5, 3] (fun i s wr => SumC c w y i s wr) (fun i s wr => 8 - (intOf i).toNat)
      case atStart => exact ⟨0, by omega, rfl, rfl, by repeat' (first | with_reducible exact Below.refl _ _ | with_reducible assumption | with_reducible refine Below.drew ?_ | with_reducible refine Below.drewN ?_ _ | with_reducible refine Below.alloc ?_ ?_ _ | with_reducible refine Below.setCell ?_ ?_ _ | with_reducible refine Below.setRow ?_ ?_ _ | with_reducible refine below_step (by assumption) ?_ ?_ | (show (_ : Nat) ≤ _; first | omega | (simp <;> omega)))⟩
      case round =>
        obtain ⟨x, hx, rfl, rfl, hb2⟩ := hrel
        have hrw : rowOf wr p = kx R o c := (keep_row hb2 hp).trans hr
        have hpw : p < wr.heap.size := Nat.lt_of_lt_of_le hp hb2.size
        by_cases hlx : x < 8
        · have hw0 := hf.cell (2 + y * 8 + x) (by omega) (by omega)
          have HN := Lib.hid (show sumTo (wetF c) (y * 8 + x) + c (2 + y * 8 + x) = sumTo (wetF c) (y * 8 + (x + 1)) by
            show _ = sumTo (wetF c) (y * 8 + x) + c (2 + (y * 8 + x)); rw [Nat.add_assoc])
          have hs := wet_bound hf (y * 8 + x) (by omega)
          generalize sumTo (wetF c) (y * 8 + x) = S at hs HN ⊢
          go_wp2
          go_roundw
          case rel => first | exact ⟨x + 1, by omega, by go_num, by rw [← HN.out], by repeat' (first | with_reducible exact Below.refl _ _ | with_reducible assumption | with_reducible refine Below.drew ?_ | with_reducible refine Below.drewN ?_ _ | with_reducible refine Below.alloc ?_ ?_ _ | with_reducible refine Below.setCell ?_ ?_ _ | with_reducible refine Below.setRow ?_ ?_ _ | with_reducible refine below_step (by assumption) ?_ ?_ | (show (_ : Nat) ≤ _; first | omega | (simp <;> omega)))⟩ | ((repeat (with_reducible apply Exists.intro)); refine And.intro ?_ ?_; rotate_left; focus ((repeat' (with_reducible apply And.intro)) <;> rfl); exact ⟨x + 1, by omega, by go_num, by rw [← HN.out], by repeat' (first | with_reducible exact Below.refl _ _ | with_reducible assumption | with_reducible refine Below.drew ?_ | with_reducible refine Below.drewN ?_ _ | with_reducible refine Below.alloc ?_ ?_ _ | with_reducible refine Below.setCell ?_ ?_ _ | with_reducible refine Below.setRow ?_ ?_ _ | with_reducible refine below_step (by assumption) ?_ ?_ | (show (_ : Nat) ≤ _; first | omega | (simp <;> omega)))⟩)
          case measure => simp [intOf]; omega
        · have hxe : x = 8 := by omega
          subst hxe
          go_wp2
          go_roundw
          case rel => first | exact ⟨y + 1, by omega, by go_num, by rw [Nat.succ_mul], by repeat' (first | with_reducible exact Below.refl _ _ | with_reducible assumption | with_reducible refine Below.drew ?_ | with_reducible refine Below.drewN ?_ _ | with_reducible refine Below.alloc ?_ ?_ _ | with_reducible refine Below.setCell ?_ ?_ _ | with_reducible refine Below.setRow ?_ ?_ _ | with_reducible refine below_step (by assumption) ?_ ?_ | (show (_ : Nat) ≤ _; first | omega | (simp <;> omega)))⟩ | ((repeat (with_reducible apply Exists.intro)); refine And.intro ?_ ?_; rotate_left; focus ((repeat' (with_reducible apply And.intro)) <;> rfl); exact ⟨y + 1, by omega, by go_num, by rw [Nat.succ_mul], by repeat' (first | with_reducible exact Below.refl _ _ | with_reducible assumption | with_reducible refine Below.drew ?_ | with_reducible refine Below.drewN ?_ _ | with_reducible refine Below.alloc ?_ ?_ _ | with_reducible refine Below.setCell ?_ ?_ _ | with_reducible refine Below.setRow ?_ ?_ _ | with_reducible refine below_step (by assumption) ?_ ?_ | (show (_ : Nat) ≤ _; first | omega | (simp <;> omega)))⟩)
          case measure => simp [intOf]; omega
    · have hye : y = 8 := by omega
      subst hye
      go_wp2
      go_ret
      exact ⟨rfl, by repeat' (first | with_reducible exact Below.refl _ _ | with_reducible assumption | with_reducible refine Below.drew ?_ | with_reducible refine Below.drewN ?_ _ | with_reducible refine Below.alloc ?_ ?_ _ | with_reducible refine Below.setCell ?_ ?_ _ | with_reducible refine Below.setRow ?_ ?_ _ | with_reducible refine below_step (by assumption) ?_ ?_ | (show (_ : Nat) ≤ _; first | omega | (simp <;> omega)))⟩
set_option maxHeartbeats 2000000 in
theorem cells_at (p o : Nat) (R : Array Value) (c : Nat → Int) (hf : FitSheet c) (W H : Nat) (hW : c 0 = W) (hH : c 1 = H) (W8 : W ≤ 8) (H8 : H ≤ 8) (w : World) (hr : rowOf w p = kx R o c) (hp : p < w.heap.size) :
    Calls Try.prog 102 #[.pointer (some ⟨p, o, none⟩)] w fun e w' => ∃ v, e = .returned v ∧ w'.ownsRow w.heap.size 88 2 v (H * W) (spots W (H * W)) ∧ Below w.heap.size w w' := by
  obtain ⟨i0, z0, hi0, hz0, hs0, hb0, hc0⟩ := spot_info
  go_enter Try.func102, Try.ntmps102
  go_wp2
  go_loopw [11, 3] (fun i v wr => RowsC c w W H i v wr) (fun i v wr => H - (intOf i).toNat)
  case atStart => exact ⟨0, by omega, rfl, by repeat' (first | with_reducible exact Below.refl _ _ | with_reducible assumption | with_reducible refine Below.drew ?_ | with_reducible refine Below.drewN ?_ _ | with_reducible refine Below.alloc ?_ ?_ _ | with_reducible refine Below.setCell ?_ ?_ _ | with_reducible refine Below.setRow ?_ ?_ _ | with_reducible refine below_step (by assumption) ?_ ?_ | (show (_ : Nat) ≤ _; first | omega | (simp <;> omega))), by rw [Nat.zero_mul]; exact owns_empty _ _⟩
  case round =>
    obtain ⟨y, hy, rfl, hb, hown⟩ := hrel
    obtain ⟨wo, rfl⟩ : ∃ wo : World, wo = wr := ⟨_, rfl⟩
    have hro : rowOf wo p = kx R o c := (keep_row hb hp).trans hr
    have hpo : p < wo.heap.size := Nat.lt_of_lt_of_le hp hb.size
    have HO := Lib.hid hown
    clear hown
    by_cases hlt : y < H
    · have hd : decide ((y : Int) < (H : Int)) = true := decide_eq_true (by omega)
      go_wp2
      go_loopw [18, 3] (fun i v wr => CellsC c w W y i v wr) (fun i v wr => W - (intOf i).toNat)
      case atStart => exact ⟨0, by omega, rfl, by repeat' (first | with_reducible exact Below.refl _ _ | with_reducible assumption | with_reducible refine Below.drew ?_ | with_reducible refine Below.drewN ?_ _ | with_reducible refine Below.alloc ?_ ?_ _ | with_reducible refine Below.setCell ?_ ?_ _ | with_reducible refine Below.setRow ?_ ?_ _ | with_reducible refine below_step (by assumption) ?_ ?_ | (show (_ : Nat) ≤ _; first | omega | (simp <;> omega))), HO.out⟩
      case round =>
        obtain ⟨x, hx, rfl, hb2, hown⟩ := hrel
        have hsz := hb2.size
        by_cases hlx : x < W
        · have hyW : y * W ≤ 7 * W := Nat.mul_le_mul_right _ (by omega)
          go_wp2_with (at_builtin; refine wpList_append_own _ rfl _ _ 37 rfl w.heap.size 88 i0 z0 2 2 Try.underlying37 hi0 hz0 hs0 hb0 hc0 (by decide) _ _ _ rfl (hown.alloc _) ⟨wr.heap.size, 0, none⟩ 1 1 [.int .i8 x, .int .i8 y] rfl rfl ?c1 ?c2 ?c3 ?c4 ?c5 ?_)
          case c1 =>
            intro j u hj
            match j, hj with
            | 0, hj => simp at hj; subst hj; simp [Addr.add]
            | 1, hj => simp at hj; subst hj; simp [Addr.add]
          case c2 => intro u hu; simp at hu; rcases hu with rfl | rfl <;> rfl
          case c3 => unfold maxLen; omega
          case c4 => omega
          case c5 => simp; omega
          intro v' w1 hown' hgrow _
          rw [← spots_next W x y hlx] at hown'
          have hbg : Below w.heap.size w w1 := below_grown (Below.alloc hb2 (by omega) _) hgrow (owns_base hown) (by simp; omega)
          have HB := Lib.hid hbg
          have HW := Lib.hid hown'
          clear hbg hown' hgrow
          go_wp2
          go_roundw
          case rel => first | exact ⟨x + 1, by omega, by go_num, HB.out, HW.out⟩ | ((repeat (with_reducible apply Exists.intro)); refine And.intro ?_ ?_; rotate_left; focus ((repeat' (with_reducible apply And.intro)) <;> rfl); exact ⟨x + 1, by omega, by go_num, HB.out, HW.out⟩)
          case measure => simp [intOf]; omega
        · have HX := Lib.hid hown
          clear hown
          have hxe : x = W := by omega
          subst hxe
          go_wp2
          go_roundw
          case rel => first | exact ⟨y + 1, by omega, by go_num, hb2, by rw [Nat.succ_mul]; exact HX.out⟩ | ((repeat (with_reducible apply Exists.intro)); refine And.intro ?_ ?_; rotate_left; focus ((repeat' (with_reducible apply And.intro)) <;> rfl); exact ⟨y + 1, by omega, by go_num, hb2, by rw [Nat.succ_mul]; exact HX.out⟩)
          case measure => simp [intOf]; omega
    · have hye : y = H := by omega
      subst hye
      go_wp2
      go_ret
      exact ⟨_, rfl, HO.out, by repeat' (first | with_reducible exact Below.refl _ _ | with_reducible assumption | with_reducible refine Below.drew ?_ | with_reducible refine Below.drewN ?_ _ | with_reducible refine Below.alloc ?_ ?_ _ | with_reducible refine Below.setCell ?_ ?_ _ | with_reducible refine Below.setRow ?_ ?_ _ | with_reducible refine below_step (by assumption) ?_ ?_ | (show (_ : Nat) ≤ _; first | omega | (simp <;> omega)))⟩
set_option maxHeartbeats 2000000 in
theorem water_at (p o : Nat) (R : Array Value) (c : Nat → Int) (hf : FitSheet c) (W H : Nat) (hW : c 0 = W) (hH : c 1 = H) (W0 : 0 < W) (H0 : 0 < H) (W8 : W ≤ 8) (H8 : H ≤ 8) (w : World) (hr : rowOf w p = kx R o c) (hp : p < w.heap.size) :
    Calls Try.prog 59 #[.pointer (some ⟨p, o, none⟩)] w fun e w' => e = .returned (.int .i64 (sumTo (fun k => wetF c (place W k)) (H * W))) ∧ Below w.heap.size w w' := by
  have hn0 : 0 < H * W := Nat.mul_pos H0 W0
  have hnb : H * W ≤ 8 * W := Nat.mul_le_mul_right _ H8
  have hnb2 : H * W ≤ 64 := by omega
  generalize hn : H * W = n at *
  go_enter Try.func59, Try.ntmps59
  go_wp2_with (go_at_call 102; refine (cells_at _ o R c hf W H hW hH W8 H8 _ (by (go_simp <;> (intros; omega))) (by first | omega | (simp <;> omega))).mono ?_; rintro e w1 ⟨v, rfl, hown, hb1⟩; rw [hn] at hown; obtain ⟨g, cap, rfl, hg, hgs, hcells⟩ := owns_some hown hn0; have HC := Lib.hid hcells; have HO := Lib.hid hown; clear hown hcells)
  go_loopw [9, 3] (fun i s wr => SumW c W n w w1 i s wr) (fun i s wr => n - (intOf i).toNat)
  case atStart => exact ⟨0, by omega, rfl, rfl, by repeat' (first | with_reducible exact Below.refl _ _ | with_reducible assumption | with_reducible refine Below.drew ?_ | with_reducible refine Below.drewN ?_ _ | with_reducible refine Below.alloc ?_ ?_ _ | with_reducible refine Below.setCell ?_ ?_ _ | with_reducible refine Below.setRow ?_ ?_ _ | with_reducible refine below_step (by assumption) ?_ ?_ | (show (_ : Nat) ≤ _; first | omega | (simp <;> omega))), Below.refl _ _⟩
  case round =>
    obtain ⟨k, hk, rfl, rfl, hb, hb2⟩ := hrel
    have hrw : rowOf wr p = kx R o c := (keep_row hb hp).trans hr
    have hpw : p < wr.heap.size := Nat.lt_of_lt_of_le hp hb.size
    have hsz2 := hb2.size
    have hsz1 := hb.size
    have hgr : rowOf wr g = rowOf w1 g := keep_row hb2 hgs
    have hgw : g < wr.heap.size := Nat.lt_of_lt_of_le hgs hb2.size
    by_cases hlt : k < n
    · obtain ⟨c1, c2⟩ := spots_drop W n k hlt
      have r1 := hgr ▸ HC.out _ _ c1
      have r2 := hgr ▸ HC.out _ _ c2
      have hx8 : k % W < 8 := Nat.lt_of_lt_of_le (Nat.mod_lt _ W0) W8
      have hy8 : k / W < 8 := (Nat.div_lt_iff_lt_mul W0).2 (by omega)
      have HN := Lib.hid (show sumTo (fun k => wetF c (place W k)) k + c (2 + k / W * 8 + k % W) = sumTo (fun k => wetF c (place W k)) (k + 1) by
        show _ = sumTo (fun k => wetF c (place W k)) k + c (2 + (k / W * 8 + k % W)); rw [Nat.add_assoc])
      have hs := wetp_bound hf W W0 W8 k (by omega)
      have hw0 := hf.cell (2 + k / W * 8 + k % W) (by omega) (by omega)
      clear c1 c2 hgr
      generalize k % W = x at *
      generalize k / W = y at *
      generalize sumTo (fun k => wetF c (place W k)) k = S at hs HN ⊢
      go_wp2_with ((go_at_call 96; refine (wet_at _ o R c hf x y hx8 hy8 _ (by (go_simp <;> (intros; omega))) (by first | omega | (simp <;> omega))).mono ?_; rintro e w1 ⟨rfl, hb1⟩; have r1 := keep_rowA hb1; have f1 := keep_frA hb1; have s1 := hb1.size; (try simp only [World.size_alloc, World.size_setCell, setRow_size, World.size_drew, size_drewNm] at r1 f1 s1)))
      go_roundw
      case rel => first | exact ⟨k + 1, by omega, by go_num, by rw [← HN.out], by repeat' (first | with_reducible exact Below.refl _ _ | with_reducible assumption | with_reducible refine Below.drew ?_ | with_reducible refine Below.drewN ?_ _ | with_reducible refine Below.alloc ?_ ?_ _ | with_reducible refine Below.setCell ?_ ?_ _ | with_reducible refine Below.setRow ?_ ?_ _ | with_reducible refine below_step (by assumption) ?_ ?_ | (show (_ : Nat) ≤ _; first | omega | (simp <;> omega))), by repeat' (first | with_reducible exact Below.refl _ _ | with_reducible assumption | with_reducible refine Below.drew ?_ | with_reducible refine Below.drewN ?_ _ | with_reducible refine Below.alloc ?_ ?_ _ | with_reducible refine Below.setCell ?_ ?_ _ | with_reducible refine Below.setRow ?_ ?_ _ | with_reducible refine below_step (by assumption) ?_ ?_ | (show (_ : Nat) ≤ _; first | omega | (simp <;> omega)))⟩ | ((repeat (with_reducible apply Exists.intro)); refine And.intro ?_ ?_; rotate_left; focus ((repeat' (with_reducible apply And.intro)) <;> rfl); exact ⟨k + 1, by omega, by go_num, by rw [← HN.out], by repeat' (first | with_reducible exact Below.refl _ _ | with_reducible assumption | with_reducible refine Below.drew ?_ | with_reducible refine Below.drewN ?_ _ | with_reducible refine Below.alloc ?_ ?_ _ | with_reducible refine Below.setCell ?_ ?_ _ | with_reducible refine Below.setRow ?_ ?_ _ | with_reducible refine below_step (by assumption) ?_ ?_ | (show (_ : Nat) ≤ _; first | omega | (simp <;> omega))), by repeat' (first | with_reducible exact Below.refl _ _ | with_reducible assumption | with_reducible refine Below.drew ?_ | with_reducible refine Below.drewN ?_ _ | with_reducible refine Below.alloc ?_ ?_ _ | with_reducible refine Below.setCell ?_ ?_ _ | with_reducible refine Below.setRow ?_ ?_ _ | with_reducible refine below_step (by assumption) ?_ ?_ | (show (_ : Nat) ≤ _; first | omega | (simp <;> omega)))⟩)
      case measure => simp [intOf]; omega
    · have hke : k = n := by omega
      subst hke
      go_wp2
      go_ret
      exact ⟨rfl, by repeat' (first | with_reducible exact Below.refl _ _ | with_reducible assumption | with_reducible refine Below.drew ?_ | with_reducible refine Below.drewN ?_ _ | with_reducible refine Below.alloc ?_ ?_ _ | with_reducible refine Below.setCell ?_ ?_ _ | with_reducible refine Below.setRow ?_ ?_ _ | with_reducible refine below_step (by assumption) ?_ ?_ | (show (_ : Nat) ≤ _; first | omega | (simp <;> omega)))⟩
end Go.Proofs.Ytfcffihenmjafaa
