/- By how much two sheets differ, in both. Written by gen_differby.py. -/
import Derived.Test.YtjfbolelanmndaaDiffI
namespace Go.Proofs.Ytjfbolelanmndaa
open Go.RowKit
set_option linter.unusedVariables false
set_option linter.unusedSimpArgs false
set_option maxRecDepth 100000
open Classical in
noncomputable def differR (c d : Nat → Int) : Int := if okS c = true ∧ okS d = true ∧ c 0 = d 0 ∧ c 1 = d 1 then sumTo (diffF c d) 64 else 0
open Classical in
noncomputable def differK (c d : Nat → Int) : Int := if okS c = true ∧ okS d = true then (if c 0 = d 0 ∧ c 1 = d 1 then 0 else 4) else 1
set_option maxHeartbeats 4000000 in
theorem sDifferBy_any (c d : Nat → Int) (hc : FitSheet c) (hd : FitSheet d) (w : World) : Calls Try.prog 29 #[.agg (kc sk 266 c), .agg (kc sk 266 d)] w fun e w' => e = .returned (.tuple #[.int .i64 (differR c d), .int .i64 (differK c d)]) ∧ Below w.heap.size w w' := by
  have hC := fun p w hr hp => l01Ok_any p c hc w hr hp
  have hD := fun p w hr hp => l01Ok_any p d hd w hr hp
  rcases Bool.eq_false_or_eq_true (okS c) with ho | ho
  case inr =>
    have hR : differR c d = 0 := if_neg (by simp [ho])
    have hK : differK c d = 1 := by unfold differK; rw [if_neg (by simp [ho])]
    rw [hR, hK]
    simp only [ho] at hC
    have HC := Lib.hid hC
    have HD := Lib.hid hD
    clear hC hD hR hK ho
    go_enter Try.func29, Try.ntmps29
    go_wp2_with (first | (go_at_call 47; refine (HC.out _ _ ?_ ?_).mono ?_; (focus (go_simp <;> (intros; omega))); (focus (first | omega | (simp <;> omega))); rintro e w1 ⟨rfl, hb1⟩; have r1 := keep_rowA hb1; have f1 := keep_frA hb1; have s1 := hb1.size; try simp only [World.size_alloc, World.size_setCell, setRow_size, World.size_drew] at r1 f1 s1) | (go_at_call 47; refine (HD.out _ _ ?_ ?_).mono ?_; (focus (go_simp <;> (intros; omega))); (focus (first | omega | (simp <;> omega))); rintro e w1 ⟨rfl, hb1⟩; have r1 := keep_rowA hb1; have f1 := keep_frA hb1; have s1 := hb1.size; try simp only [World.size_alloc, World.size_setCell, setRow_size, World.size_drew] at r1 f1 s1))
    refine bodyPost_ret (v := .tuple #[.int .i64 0, .int .i64 1]) (res_tt rfl rfl rfl) rfl ⟨rfl, by repeat' (first | with_reducible exact Below.refl _ _ | with_reducible assumption | with_reducible refine Below.drew ?_ | with_reducible refine Below.drewN ?_ _ | with_reducible refine Below.alloc ?_ ?_ _ | with_reducible refine Below.setCell ?_ ?_ _ | with_reducible refine Below.setRow ?_ ?_ _ | with_reducible refine below_step (by assumption) ?_ ?_ | (show (_ : Nat) ≤ _; first | omega | (simp <;> omega)))⟩
  rcases Bool.eq_false_or_eq_true (okS d) with hq | hq
  case inr =>
    have hR : differR c d = 0 := if_neg (by simp [hq])
    have hK : differK c d = 1 := by unfold differK; rw [if_neg (by simp [hq])]
    rw [hR, hK]
    simp only [ho] at hC
    simp only [hq] at hD
    have HC := Lib.hid hC
    have HD := Lib.hid hD
    clear hC hD hR hK ho hq
    go_enter Try.func29, Try.ntmps29
    go_wp2_with (first | (go_at_call 47; refine (HC.out _ _ ?_ ?_).mono ?_; (focus (go_simp <;> (intros; omega))); (focus (first | omega | (simp <;> omega))); rintro e w1 ⟨rfl, hb1⟩; have r1 := keep_rowA hb1; have f1 := keep_frA hb1; have s1 := hb1.size; try simp only [World.size_alloc, World.size_setCell, setRow_size, World.size_drew] at r1 f1 s1) | (go_at_call 47; refine (HD.out _ _ ?_ ?_).mono ?_; (focus (go_simp <;> (intros; omega))); (focus (first | omega | (simp <;> omega))); rintro e w1 ⟨rfl, hb1⟩; have r1 := keep_rowA hb1; have f1 := keep_frA hb1; have s1 := hb1.size; try simp only [World.size_alloc, World.size_setCell, setRow_size, World.size_drew] at r1 f1 s1))
    refine bodyPost_ret (v := .tuple #[.int .i64 0, .int .i64 1]) (res_tt rfl rfl rfl) rfl ⟨rfl, by repeat' (first | with_reducible exact Below.refl _ _ | with_reducible assumption | with_reducible refine Below.drew ?_ | with_reducible refine Below.drewN ?_ _ | with_reducible refine Below.alloc ?_ ?_ _ | with_reducible refine Below.setCell ?_ ?_ _ | with_reducible refine Below.setRow ?_ ?_ _ | with_reducible refine below_step (by assumption) ?_ ?_ | (show (_ : Nat) ≤ _; first | omega | (simp <;> omega)))⟩
  by_cases hw : c 0 = d 0
  case neg =>
    have hR : differR c d = 0 := if_neg (by simp [hw])
    have hK : differK c d = 4 := by unfold differK; rw [if_pos ⟨ho, hq⟩, if_neg (by simp [hw])]
    rw [hR, hK]
    simp only [ho] at hC
    simp only [hq] at hD
    have HC := Lib.hid hC
    have HD := Lib.hid hD
    clear hC hD hR hK ho hq
    have hwd : decide (c 0 = d 0) = false := decide_eq_false hw
    go_enter Try.func29, Try.ntmps29
    go_wp2_with (first | (go_at_call 47; refine (HC.out _ _ ?_ ?_).mono ?_; (focus (go_simp <;> (intros; omega))); (focus (first | omega | (simp <;> omega))); rintro e w1 ⟨rfl, hb1⟩; have r1 := keep_rowA hb1; have f1 := keep_frA hb1; have s1 := hb1.size; try simp only [World.size_alloc, World.size_setCell, setRow_size, World.size_drew] at r1 f1 s1) | (go_at_call 47; refine (HD.out _ _ ?_ ?_).mono ?_; (focus (go_simp <;> (intros; omega))); (focus (first | omega | (simp <;> omega))); rintro e w1 ⟨rfl, hb1⟩; have r1 := keep_rowA hb1; have f1 := keep_frA hb1; have s1 := hb1.size; try simp only [World.size_alloc, World.size_setCell, setRow_size, World.size_drew] at r1 f1 s1))
    refine bodyPost_ret (v := .tuple #[.int .i64 0, .int .i64 4]) (res_tt rfl rfl rfl) rfl ⟨rfl, by repeat' (first | with_reducible exact Below.refl _ _ | with_reducible assumption | with_reducible refine Below.drew ?_ | with_reducible refine Below.drewN ?_ _ | with_reducible refine Below.alloc ?_ ?_ _ | with_reducible refine Below.setCell ?_ ?_ _ | with_reducible refine Below.setRow ?_ ?_ _ | with_reducible refine below_step (by assumption) ?_ ?_ | (show (_ : Nat) ≤ _; first | omega | (simp <;> omega)))⟩
  by_cases hh : c 1 = d 1
  case neg =>
    have hwd : decide (c 0 = d 0) = true := decide_eq_true hw
    have hR : differR c d = 0 := if_neg (by simp [hh])
    have hK : differK c d = 4 := by unfold differK; rw [if_pos ⟨ho, hq⟩, if_neg (by simp [hh])]
    rw [hR, hK]
    simp only [ho] at hC
    simp only [hq] at hD
    have HC := Lib.hid hC
    have HD := Lib.hid hD
    clear hC hD hR hK ho hq
    have hhd : decide (c 1 = d 1) = false := decide_eq_false hh
    go_enter Try.func29, Try.ntmps29
    go_wp2_with (first | (go_at_call 47; refine (HC.out _ _ ?_ ?_).mono ?_; (focus (go_simp <;> (intros; omega))); (focus (first | omega | (simp <;> omega))); rintro e w1 ⟨rfl, hb1⟩; have r1 := keep_rowA hb1; have f1 := keep_frA hb1; have s1 := hb1.size; try simp only [World.size_alloc, World.size_setCell, setRow_size, World.size_drew] at r1 f1 s1) | (go_at_call 47; refine (HD.out _ _ ?_ ?_).mono ?_; (focus (go_simp <;> (intros; omega))); (focus (first | omega | (simp <;> omega))); rintro e w1 ⟨rfl, hb1⟩; have r1 := keep_rowA hb1; have f1 := keep_frA hb1; have s1 := hb1.size; try simp only [World.size_alloc, World.size_setCell, setRow_size, World.size_drew] at r1 f1 s1))
    refine bodyPost_ret (v := .tuple #[.int .i64 0, .int .i64 4]) (res_tt rfl rfl rfl) rfl ⟨rfl, by repeat' (first | with_reducible exact Below.refl _ _ | with_reducible assumption | with_reducible refine Below.drew ?_ | with_reducible refine Below.drewN ?_ _ | with_reducible refine Below.alloc ?_ ?_ _ | with_reducible refine Below.setCell ?_ ?_ _ | with_reducible refine Below.setRow ?_ ?_ _ | with_reducible refine below_step (by assumption) ?_ ?_ | (show (_ : Nat) ≤ _; first | omega | (simp <;> omega)))⟩
  have hR : differR c d = sumTo (diffF c d) 64 := if_pos ⟨ho, hq, hw, hh⟩
  have hK : differK c d = 0 := by unfold differK; rw [if_pos ⟨ho, hq⟩, if_pos ⟨hw, hh⟩]
  rw [hR, hK]
  have HS := Lib.hid (fun p q w hr hp hr2 hq => l01Differ_any p q c d hc hd w hr hp hr2 hq)
  generalize sumTo (diffF c d) 64 = S at HS ⊢
  simp only [ho] at hC
  simp only [hq] at hD
  have HC := Lib.hid hC
  have HD := Lib.hid hD
  have hwd : decide (c 0 = d 0) = true := decide_eq_true hw
  have hhd : decide (c 1 = d 1) = true := decide_eq_true hh
  clear hC hD hR hK ho hq
  go_enter Try.func29, Try.ntmps29
  go_wp2_with (first | (go_at_call 47; refine (HC.out _ _ ?_ ?_).mono ?_; (focus (go_simp <;> (intros; omega))); (focus (first | omega | (simp <;> omega))); rintro e w1 ⟨rfl, hb1⟩; have r1 := keep_rowA hb1; have f1 := keep_frA hb1; have s1 := hb1.size; try simp only [World.size_alloc, World.size_setCell, setRow_size, World.size_drew] at r1 f1 s1) | (go_at_call 47; refine (HD.out _ _ ?_ ?_).mono ?_; (focus (go_simp <;> (intros; omega))); (focus (first | omega | (simp <;> omega))); rintro e w1 ⟨rfl, hb1⟩; have r1 := keep_rowA hb1; have f1 := keep_frA hb1; have s1 := hb1.size; try simp only [World.size_alloc, World.size_setCell, setRow_size, World.size_drew] at r1 f1 s1) | (go_at_call 65; refine (HS.out _ _ _ (by (go_simp <;> (intros; omega))) (by first | omega | (simp <;> omega)) (by (go_simp <;> (intros; omega))) (by first | omega | (simp <;> omega))).mono ?_; rintro e w1 ⟨rfl, hb1⟩; have r1 := keep_rowA hb1; have f1 := keep_frA hb1; have s1 := hb1.size; try simp only [World.size_alloc, World.size_setCell, setRow_size, World.size_drew] at r1 f1 s1))
  refine bodyPost_ret (v := .tuple #[.int .i64 S, .int .i64 0]) (res_tt rfl rfl rfl) rfl ⟨rfl, by repeat' (first | with_reducible exact Below.refl _ _ | with_reducible assumption | with_reducible refine Below.drew ?_ | with_reducible refine Below.drewN ?_ _ | with_reducible refine Below.alloc ?_ ?_ _ | with_reducible refine Below.setCell ?_ ?_ _ | with_reducible refine Below.setRow ?_ ?_ _ | with_reducible refine below_step (by assumption) ?_ ?_ | (show (_ : Nat) ≤ _; first | omega | (simp <;> omega)))⟩
set_option maxHeartbeats 4000000 in
theorem iDifferBy_any (c d : Nat → Int) (hc : FitSheet c) (hd : FitSheet d) (w : World) : Calls Try.prog 30 #[.agg (kc sk 266 c), .agg (kc sk 266 d)] w fun e w' => e = .returned (.tuple #[.int .i64 (differR c d), .int .i64 (differK c d)]) ∧ Below w.heap.size w w' := by
  have hC := fun w => iValidSheet_any c hc w
  have hD := fun w => iValidSheet_any d hd w
  rcases Bool.eq_false_or_eq_true (okS c) with ho | ho
  case inr =>
    have hR : differR c d = 0 := if_neg (by simp [ho])
    have hK : differK c d = 1 := by unfold differK; rw [if_neg (by simp [ho])]
    rw [hR, hK]
    simp only [ho] at hC
    have HC := Lib.hid hC
    have HD := Lib.hid hD
    clear hC hD hR hK ho
    go_enter Try.func30, Try.ntmps30
    go_wp2_with (first | (go_at_call 17; with_reducible refine (HC.out _).mono ?_; rintro e w1 ⟨rfl, hb1⟩; have r1 := keep_rowA hb1; have f1 := keep_frA hb1; have s1 := hb1.size; try simp only [World.size_alloc, World.size_setCell, setRow_size, World.size_drew] at r1 f1 s1) | (go_at_call 17; with_reducible refine (HD.out _).mono ?_; rintro e w1 ⟨rfl, hb1⟩; have r1 := keep_rowA hb1; have f1 := keep_frA hb1; have s1 := hb1.size; try simp only [World.size_alloc, World.size_setCell, setRow_size, World.size_drew] at r1 f1 s1) | (go_at_call 66; refine (sameSides_any c d _).mono ?_; rintro e w1 ⟨rfl, hb1⟩; have r1 := keep_rowA hb1; have f1 := keep_frA hb1; have s1 := hb1.size; try simp only [World.size_alloc, World.size_setCell, setRow_size, World.size_drew] at r1 f1 s1))
    refine bodyPost_ret (v := .tuple #[.int .i64 0, .int .i64 1]) (res_tt rfl rfl rfl) rfl ⟨rfl, by repeat' (first | with_reducible exact Below.refl _ _ | with_reducible assumption | with_reducible refine Below.drew ?_ | with_reducible refine Below.drewN ?_ _ | with_reducible refine Below.alloc ?_ ?_ _ | with_reducible refine Below.setCell ?_ ?_ _ | with_reducible refine Below.setRow ?_ ?_ _ | with_reducible refine below_step (by assumption) ?_ ?_ | (show (_ : Nat) ≤ _; first | omega | (simp <;> omega)))⟩
  rcases Bool.eq_false_or_eq_true (okS d) with hq | hq
  case inr =>
    have hR : differR c d = 0 := if_neg (by simp [hq])
    have hK : differK c d = 1 := by unfold differK; rw [if_neg (by simp [hq])]
    rw [hR, hK]
    simp only [ho] at hC
    simp only [hq] at hD
    have HC := Lib.hid hC
    have HD := Lib.hid hD
    clear hC hD hR hK ho hq
    go_enter Try.func30, Try.ntmps30
    go_wp2_with (first | (go_at_call 17; with_reducible refine (HC.out _).mono ?_; rintro e w1 ⟨rfl, hb1⟩; have r1 := keep_rowA hb1; have f1 := keep_frA hb1; have s1 := hb1.size; try simp only [World.size_alloc, World.size_setCell, setRow_size, World.size_drew] at r1 f1 s1) | (go_at_call 17; with_reducible refine (HD.out _).mono ?_; rintro e w1 ⟨rfl, hb1⟩; have r1 := keep_rowA hb1; have f1 := keep_frA hb1; have s1 := hb1.size; try simp only [World.size_alloc, World.size_setCell, setRow_size, World.size_drew] at r1 f1 s1) | (go_at_call 66; refine (sameSides_any c d _).mono ?_; rintro e w1 ⟨rfl, hb1⟩; have r1 := keep_rowA hb1; have f1 := keep_frA hb1; have s1 := hb1.size; try simp only [World.size_alloc, World.size_setCell, setRow_size, World.size_drew] at r1 f1 s1))
    refine bodyPost_ret (v := .tuple #[.int .i64 0, .int .i64 1]) (res_tt rfl rfl rfl) rfl ⟨rfl, by repeat' (first | with_reducible exact Below.refl _ _ | with_reducible assumption | with_reducible refine Below.drew ?_ | with_reducible refine Below.drewN ?_ _ | with_reducible refine Below.alloc ?_ ?_ _ | with_reducible refine Below.setCell ?_ ?_ _ | with_reducible refine Below.setRow ?_ ?_ _ | with_reducible refine below_step (by assumption) ?_ ?_ | (show (_ : Nat) ≤ _; first | omega | (simp <;> omega)))⟩
  by_cases hw : c 0 = d 0
  case neg =>
    have hR : differR c d = 0 := if_neg (by simp [hw])
    have hK : differK c d = 4 := by unfold differK; rw [if_pos ⟨ho, hq⟩, if_neg (by simp [hw])]
    rw [hR, hK]
    simp only [ho] at hC
    simp only [hq] at hD
    have HC := Lib.hid hC
    have HD := Lib.hid hD
    clear hC hD hR hK ho hq
    have hwd : decide (c 0 = d 0) = false := decide_eq_false hw
    go_enter Try.func30, Try.ntmps30
    go_wp2_with (first | (go_at_call 17; with_reducible refine (HC.out _).mono ?_; rintro e w1 ⟨rfl, hb1⟩; have r1 := keep_rowA hb1; have f1 := keep_frA hb1; have s1 := hb1.size; try simp only [World.size_alloc, World.size_setCell, setRow_size, World.size_drew] at r1 f1 s1) | (go_at_call 17; with_reducible refine (HD.out _).mono ?_; rintro e w1 ⟨rfl, hb1⟩; have r1 := keep_rowA hb1; have f1 := keep_frA hb1; have s1 := hb1.size; try simp only [World.size_alloc, World.size_setCell, setRow_size, World.size_drew] at r1 f1 s1) | (go_at_call 66; refine (sameSides_any c d _).mono ?_; rintro e w1 ⟨rfl, hb1⟩; have r1 := keep_rowA hb1; have f1 := keep_frA hb1; have s1 := hb1.size; try simp only [World.size_alloc, World.size_setCell, setRow_size, World.size_drew] at r1 f1 s1))
    refine bodyPost_ret (v := .tuple #[.int .i64 0, .int .i64 4]) (res_tt rfl rfl rfl) rfl ⟨rfl, by repeat' (first | with_reducible exact Below.refl _ _ | with_reducible assumption | with_reducible refine Below.drew ?_ | with_reducible refine Below.drewN ?_ _ | with_reducible refine Below.alloc ?_ ?_ _ | with_reducible refine Below.setCell ?_ ?_ _ | with_reducible refine Below.setRow ?_ ?_ _ | with_reducible refine below_step (by assumption) ?_ ?_ | (show (_ : Nat) ≤ _; first | omega | (simp <;> omega)))⟩
  by_cases hh : c 1 = d 1
  case neg =>
    have hwd : decide (c 0 = d 0) = true := decide_eq_true hw
    have hR : differR c d = 0 := if_neg (by simp [hh])
    have hK : differK c d = 4 := by unfold differK; rw [if_pos ⟨ho, hq⟩, if_neg (by simp [hh])]
    rw [hR, hK]
    simp only [ho] at hC
    simp only [hq] at hD
    have HC := Lib.hid hC
    have HD := Lib.hid hD
    clear hC hD hR hK ho hq
    have hhd : decide (c 1 = d 1) = false := decide_eq_false hh
    go_enter Try.func30, Try.ntmps30
    go_wp2_with (first | (go_at_call 17; with_reducible refine (HC.out _).mono ?_; rintro e w1 ⟨rfl, hb1⟩; have r1 := keep_rowA hb1; have f1 := keep_frA hb1; have s1 := hb1.size; try simp only [World.size_alloc, World.size_setCell, setRow_size, World.size_drew] at r1 f1 s1) | (go_at_call 17; with_reducible refine (HD.out _).mono ?_; rintro e w1 ⟨rfl, hb1⟩; have r1 := keep_rowA hb1; have f1 := keep_frA hb1; have s1 := hb1.size; try simp only [World.size_alloc, World.size_setCell, setRow_size, World.size_drew] at r1 f1 s1) | (go_at_call 66; refine (sameSides_any c d _).mono ?_; rintro e w1 ⟨rfl, hb1⟩; have r1 := keep_rowA hb1; have f1 := keep_frA hb1; have s1 := hb1.size; try simp only [World.size_alloc, World.size_setCell, setRow_size, World.size_drew] at r1 f1 s1))
    refine bodyPost_ret (v := .tuple #[.int .i64 0, .int .i64 4]) (res_tt rfl rfl rfl) rfl ⟨rfl, by repeat' (first | with_reducible exact Below.refl _ _ | with_reducible assumption | with_reducible refine Below.drew ?_ | with_reducible refine Below.drewN ?_ _ | with_reducible refine Below.alloc ?_ ?_ _ | with_reducible refine Below.setCell ?_ ?_ _ | with_reducible refine Below.setRow ?_ ?_ _ | with_reducible refine below_step (by assumption) ?_ ?_ | (show (_ : Nat) ≤ _; first | omega | (simp <;> omega)))⟩
  have hR : differR c d = sumTo (diffF c d) 64 := if_pos ⟨ho, hq, hw, hh⟩
  have hK : differK c d = 0 := by unfold differK; rw [if_pos ⟨ho, hq⟩, if_pos ⟨hw, hh⟩]
  obtain ⟨W, H, hW, hH, W0, H0, W8, H8⟩ := okS_sides ho
  have hok : OkS c := by simpa [okS] using ho
  have hok2 : OkS d := by simpa [okS] using hq
  have hA : sumTo (diffF c d) 64 = sumTo (fun k => diffF c d (place W k)) (H * W) := sum_all (diffF c d) W H W8 H8 (fun y x hx hy h => by
    have e1 := out_wet hok hx hy (by omega)
    have e2 := out_wet hok2 hx hy (by omega)
    rw [diff_at, e1.2.1, e1.2.2.1, e1.2.2.2, e2.2.1, e2.2.2.1, e2.2.2.2]; rfl)
  rw [hR, hK, hA]
  have HS := Lib.hid (fun p q w hr hp hr2 hq => differBy_any p q c d hc hd W H hW hH W0 H0 W8 H8 w hr hp hr2 hq)
  generalize sumTo (fun k => diffF c d (place W k)) (H * W) = S at HS ⊢
  clear hA hok hok2 hW hH
  simp only [ho] at hC
  simp only [hq] at hD
  have HC := Lib.hid hC
  have HD := Lib.hid hD
  have hwd : decide (c 0 = d 0) = true := decide_eq_true hw
  have hhd : decide (c 1 = d 1) = true := decide_eq_true hh
  clear hC hD hR hK ho hq
  go_enter Try.func30, Try.ntmps30
  go_wp2_with (first | (go_at_call 17; with_reducible refine (HC.out _).mono ?_; rintro e w1 ⟨rfl, hb1⟩; have r1 := keep_rowA hb1; have f1 := keep_frA hb1; have s1 := hb1.size; try simp only [World.size_alloc, World.size_setCell, setRow_size, World.size_drew] at r1 f1 s1) | (go_at_call 17; with_reducible refine (HD.out _).mono ?_; rintro e w1 ⟨rfl, hb1⟩; have r1 := keep_rowA hb1; have f1 := keep_frA hb1; have s1 := hb1.size; try simp only [World.size_alloc, World.size_setCell, setRow_size, World.size_drew] at r1 f1 s1) | (go_at_call 66; refine (sameSides_any c d _).mono ?_; rintro e w1 ⟨rfl, hb1⟩; have r1 := keep_rowA hb1; have f1 := keep_frA hb1; have s1 := hb1.size; try simp only [World.size_alloc, World.size_setCell, setRow_size, World.size_drew] at r1 f1 s1) | (go_at_call 67; refine (HS.out _ _ _ (by (go_simp <;> (intros; omega))) (by first | omega | (simp <;> omega)) (by (go_simp <;> (intros; omega))) (by first | omega | (simp <;> omega))).mono ?_; rintro e w1 ⟨rfl, hb1⟩; have r1 := keep_rowA hb1; have f1 := keep_frA hb1; have s1 := hb1.size; try simp only [World.size_alloc, World.size_setCell, setRow_size, World.size_drew] at r1 f1 s1))
  refine bodyPost_ret (v := .tuple #[.int .i64 S, .int .i64 0]) (res_tt rfl rfl rfl) rfl ⟨rfl, by repeat' (first | with_reducible exact Below.refl _ _ | with_reducible assumption | with_reducible refine Below.drew ?_ | with_reducible refine Below.drewN ?_ _ | with_reducible refine Below.alloc ?_ ?_ _ | with_reducible refine Below.setCell ?_ ?_ _ | with_reducible refine Below.setRow ?_ ?_ _ | with_reducible refine below_step (by assumption) ?_ ?_ | (show (_ : Nat) ≤ _; first | omega | (simp <;> omega)))⟩
end Go.Proofs.Ytjfbolelanmndaa
