/- What is asked of a sheet and a cell: the functions themselves. Written by gen_ask.py. -/
import Derived.Test.YtjfbolelanmndaaAskBase
namespace Go.Proofs.Ytjfbolelanmndaa
open Go.RowKit
set_option linter.unusedVariables false
set_option linter.unusedSimpArgs false
set_option maxRecDepth 100000
noncomputable def isWaxedR (c : Nat → Int) (x y : Int) : Bool := if okS c = true ∧ isP c x y = true then waxS c x.toNat y.toNat else false
set_option maxHeartbeats 1000000 in
theorem sIsWaxed_any (c : Nat → Int) (hf : FitSheet c) (x y : Int) (hx : -128 ≤ x ∧ x ≤ 127) (hy : -128 ≤ y ∧ y ≤ 127) (w : World) :
    Calls Try.prog 18 #[.agg (kc sk 266 c), .agg #[.int .i8 x, .int .i8 y]] w fun e w' => e = .returned (.tuple #[.bool (isWaxedR c x y), .int .i64 (askB (okS c) (isP c x y) true)]) ∧ Below w.heap.size w w' := by
  have hA := fun p w hr hp => l01Asked_any p c hf x y hx hy true w hr hp
  by_cases ho : okS c = true
  case neg =>
    have ho1 := ho
    clear ho
    have ho : okS c = false := by simpa using ho1
    clear ho1
    have hK : askB (okS c) (isP c x y) true = 1 := by rw [ho]; rfl
    have hR : isWaxedR c x y = false := by unfold isWaxedR; simp [ho]
    simp only [hK] at hA
    rw [hK, hR]
    have HA := Lib.hid hA
    clear hA hK hR ho
    go_enter Try.func18, Try.ntmps18
    go_wp2_with ((go_at_call 56; refine (HA.out _ _ (by (go_simp <;> (intros; omega))) (by first | omega | (simp <;> omega))).mono ?_; rintro e w1 ⟨rfl, hb1⟩; have r1 := keep_rowA hb1; have f1 := keep_frA hb1; have s1 := hb1.size; try simp only [World.size_alloc, World.size_setCell, setRow_size, World.size_drew] at r1 f1 s1))
    refine bodyPost_ret (v := .tuple #[.bool (false), .int .i64 1]) (res_tt rfl rfl rfl) rfl ⟨rfl, by repeat' (first | with_reducible exact Below.refl _ _ | with_reducible assumption | with_reducible refine Below.drew ?_ | with_reducible refine Below.drewN ?_ _ | with_reducible refine Below.alloc ?_ ?_ _ | with_reducible refine Below.setCell ?_ ?_ _ | with_reducible refine Below.setRow ?_ ?_ _ | with_reducible refine below_step (by assumption) ?_ ?_ | (show (_ : Nat) ≤ _; first | omega | (simp <;> omega)))⟩
  by_cases hi : isP c x y = true
  case neg =>
    have hi1 := hi
    clear hi
    have hi : isP c x y = false := by simpa using hi1
    clear hi1
    have hK : askB (okS c) (isP c x y) true = 2 := by rw [ho, hi]; rfl
    have hR : isWaxedR c x y = false := by unfold isWaxedR; simp [hi]
    simp only [hK] at hA
    rw [hK, hR]
    have HA := Lib.hid hA
    clear hA hK hR ho hi
    go_enter Try.func18, Try.ntmps18
    go_wp2_with ((go_at_call 56; refine (HA.out _ _ (by (go_simp <;> (intros; omega))) (by first | omega | (simp <;> omega))).mono ?_; rintro e w1 ⟨rfl, hb1⟩; have r1 := keep_rowA hb1; have f1 := keep_frA hb1; have s1 := hb1.size; try simp only [World.size_alloc, World.size_setCell, setRow_size, World.size_drew] at r1 f1 s1))
    refine bodyPost_ret (v := .tuple #[.bool (false), .int .i64 2]) (res_tt rfl rfl rfl) rfl ⟨rfl, by repeat' (first | with_reducible exact Below.refl _ _ | with_reducible assumption | with_reducible refine Below.drew ?_ | with_reducible refine Below.drewN ?_ _ | with_reducible refine Below.alloc ?_ ?_ _ | with_reducible refine Below.setCell ?_ ?_ _ | with_reducible refine Below.setRow ?_ ?_ _ | with_reducible refine below_step (by assumption) ?_ ?_ | (show (_ : Nat) ≤ _; first | omega | (simp <;> omega)))⟩
  case pos =>
    obtain ⟨x, y, rfl, rfl, hx8, hy8⟩ := isP_nat ho hi
    have hK : askB (okS c) (isP c x y) true = 0 := by rw [ho, hi]; rfl
    have hR : isWaxedR c x y = waxS c x y := by unfold isWaxedR; simp [ho, hi]
    simp only [hK] at hA
    rw [hK, hR]
    have HA := Lib.hid hA
    clear hA hK hR ho hi
    go_enter Try.func18, Try.ntmps18
    go_wp2_with (first | (go_at_call 56; refine (HA.out _ _ (by (go_simp <;> (intros; omega))) (by first | omega | (simp <;> omega))).mono ?_; rintro e w1 ⟨rfl, hb1⟩; have r1 := keep_rowA hb1; have f1 := keep_frA hb1; have s1 := hb1.size; try simp only [World.size_alloc, World.size_setCell, setRow_size, World.size_drew] at r1 f1 s1) | (go_at_call 57; refine (l01Waxed_any _ c hf x y hx8 hy8 _ (by (go_simp <;> (intros; omega))) (by first | omega | (simp <;> omega))).mono ?_; rintro e w1 ⟨rfl, hb1⟩))
    refine bodyPost_ret (v := .tuple #[.bool (waxS c x y), .int .i64 0]) (res_tt rfl rfl rfl) rfl ⟨rfl, by repeat' (first | with_reducible exact Below.refl _ _ | with_reducible assumption | with_reducible refine Below.drew ?_ | with_reducible refine Below.drewN ?_ _ | with_reducible refine Below.alloc ?_ ?_ _ | with_reducible refine Below.setCell ?_ ?_ _ | with_reducible refine Below.setRow ?_ ?_ _ | with_reducible refine below_step (by assumption) ?_ ?_ | (show (_ : Nat) ≤ _; first | omega | (simp <;> omega)))⟩
set_option maxHeartbeats 1000000 in
theorem iIsWaxed_any (c : Nat → Int) (hf : FitSheet c) (x y : Int) (hx : -128 ≤ x ∧ x ≤ 127) (hy : -128 ≤ y ∧ y ≤ 127) (w : World) :
    Calls Try.prog 20 #[.agg (kc sk 266 c), .agg #[.int .i8 x, .int .i8 y]] w fun e w' => e = .returned (.tuple #[.bool (isWaxedR c x y), .int .i64 (askB (okS c) (isP c x y) true)]) ∧ Below w.heap.size w w' := by
  have hA := fun p w hr hp => code_any p c hf (isP c x y) w hr hp
  have HS := Lib.hid (fun p w hr hp => has_any p c hf x y hx hy w hr hp)
  by_cases ho : okS c = true
  case neg =>
    have ho1 := ho
    clear ho
    have ho : okS c = false := by simpa using ho1
    clear ho1
    have hK : askB (okS c) (isP c x y) true = 1 := by rw [ho]; rfl
    have hR : isWaxedR c x y = false := by unfold isWaxedR; simp [ho]
    simp only [hK] at hA
    rw [hK, hR]
    have HA := Lib.hid hA
    clear hA hK hR ho
    go_enter Try.func20, Try.ntmps20
    go_wp2_with (first | (go_at_call 52; refine (HS.out _ _ (by (go_simp <;> (intros; omega))) (by first | omega | (simp <;> omega))).mono ?_; rintro e w1 ⟨rfl, hb1⟩; have r1 := keep_rowA hb1; have f1 := keep_frA hb1; have s1 := hb1.size; try simp only [World.size_alloc, World.size_setCell, setRow_size, World.size_drew] at r1 f1 s1) | (go_at_call 58; refine (HA.out _ _ (by (go_simp <;> (intros; omega))) (by first | omega | (simp <;> omega))).mono ?_; rintro e w1 ⟨rfl, hb1⟩; have r1 := keep_rowA hb1; have f1 := keep_frA hb1; have s1 := hb1.size; try simp only [World.size_alloc, World.size_setCell, setRow_size, World.size_drew] at r1 f1 s1))
    refine bodyPost_ret (v := .tuple #[.bool (false), .int .i64 1]) (res_tt rfl rfl rfl) rfl ⟨rfl, by repeat' (first | with_reducible exact Below.refl _ _ | with_reducible assumption | with_reducible refine Below.drew ?_ | with_reducible refine Below.drewN ?_ _ | with_reducible refine Below.alloc ?_ ?_ _ | with_reducible refine Below.setCell ?_ ?_ _ | with_reducible refine Below.setRow ?_ ?_ _ | with_reducible refine below_step (by assumption) ?_ ?_ | (show (_ : Nat) ≤ _; first | omega | (simp <;> omega)))⟩
  by_cases hi : isP c x y = true
  case neg =>
    have hi1 := hi
    clear hi
    have hi : isP c x y = false := by simpa using hi1
    clear hi1
    have hK : askB (okS c) (isP c x y) true = 2 := by rw [ho, hi]; rfl
    have hR : isWaxedR c x y = false := by unfold isWaxedR; simp [hi]
    simp only [hK] at hA
    rw [hK, hR]
    have HA := Lib.hid hA
    clear hA hK hR ho hi
    go_enter Try.func20, Try.ntmps20
    go_wp2_with (first | (go_at_call 52; refine (HS.out _ _ (by (go_simp <;> (intros; omega))) (by first | omega | (simp <;> omega))).mono ?_; rintro e w1 ⟨rfl, hb1⟩; have r1 := keep_rowA hb1; have f1 := keep_frA hb1; have s1 := hb1.size; try simp only [World.size_alloc, World.size_setCell, setRow_size, World.size_drew] at r1 f1 s1) | (go_at_call 58; refine (HA.out _ _ (by (go_simp <;> (intros; omega))) (by first | omega | (simp <;> omega))).mono ?_; rintro e w1 ⟨rfl, hb1⟩; have r1 := keep_rowA hb1; have f1 := keep_frA hb1; have s1 := hb1.size; try simp only [World.size_alloc, World.size_setCell, setRow_size, World.size_drew] at r1 f1 s1))
    refine bodyPost_ret (v := .tuple #[.bool (false), .int .i64 2]) (res_tt rfl rfl rfl) rfl ⟨rfl, by repeat' (first | with_reducible exact Below.refl _ _ | with_reducible assumption | with_reducible refine Below.drew ?_ | with_reducible refine Below.drewN ?_ _ | with_reducible refine Below.alloc ?_ ?_ _ | with_reducible refine Below.setCell ?_ ?_ _ | with_reducible refine Below.setRow ?_ ?_ _ | with_reducible refine below_step (by assumption) ?_ ?_ | (show (_ : Nat) ≤ _; first | omega | (simp <;> omega)))⟩
  case pos =>
    obtain ⟨x, y, rfl, rfl, hx8, hy8⟩ := isP_nat ho hi
    have hK : askB (okS c) (isP c x y) true = 0 := by rw [ho, hi]; rfl
    have hR : isWaxedR c x y = waxS c x y := by unfold isWaxedR; simp [ho, hi]
    simp only [hK] at hA
    rw [hK, hR]
    have HA := Lib.hid hA
    clear hA hK hR ho hi
    go_enter Try.func20, Try.ntmps20
    go_wp2_with (first | (go_at_call 52; refine (HS.out _ _ (by (go_simp <;> (intros; omega))) (by first | omega | (simp <;> omega))).mono ?_; rintro e w1 ⟨rfl, hb1⟩; have r1 := keep_rowA hb1; have f1 := keep_frA hb1; have s1 := hb1.size; try simp only [World.size_alloc, World.size_setCell, setRow_size, World.size_drew] at r1 f1 s1) | (go_at_call 58; refine (HA.out _ _ (by (go_simp <;> (intros; omega))) (by first | omega | (simp <;> omega))).mono ?_; rintro e w1 ⟨rfl, hb1⟩; have r1 := keep_rowA hb1; have f1 := keep_frA hb1; have s1 := hb1.size; try simp only [World.size_alloc, World.size_setCell, setRow_size, World.size_drew] at r1 f1 s1) | (go_at_call 53; refine (waxed_any _ c hf x y hx8 hy8 _ (by (go_simp <;> (intros; omega))) (by first | omega | (simp <;> omega))).mono ?_; rintro e w1 ⟨rfl, hb1⟩; have r1 := keep_rowA hb1; have f1 := keep_frA hb1; have s1 := hb1.size; try simp only [World.size_alloc, World.size_setCell, setRow_size, World.size_drew] at r1 f1 s1))
    refine bodyPost_ret (v := .tuple #[.bool (waxS c x y), .int .i64 0]) (res_tt rfl rfl rfl) rfl ⟨rfl, by repeat' (first | with_reducible exact Below.refl _ _ | with_reducible assumption | with_reducible refine Below.drew ?_ | with_reducible refine Below.drewN ?_ _ | with_reducible refine Below.alloc ?_ ?_ _ | with_reducible refine Below.setCell ?_ ?_ _ | with_reducible refine Below.setRow ?_ ?_ _ | with_reducible refine below_step (by assumption) ?_ ?_ | (show (_ : Nat) ≤ _; first | omega | (simp <;> omega)))⟩
noncomputable def wetAtR (c : Nat → Int) (x y : Int) : Int := if okS c = true ∧ isP c x y = true then c (2 + y.toNat * 8 + x.toNat) else 0
set_option maxHeartbeats 1000000 in
theorem sWetAt_any (c : Nat → Int) (hf : FitSheet c) (x y : Int) (hx : -128 ≤ x ∧ x ≤ 127) (hy : -128 ≤ y ∧ y ≤ 127) (w : World) :
    Calls Try.prog 21 #[.agg (kc sk 266 c), .agg #[.int .i8 x, .int .i8 y]] w fun e w' => e = .returned (.tuple #[.int .i64 (wetAtR c x y), .int .i64 (askB (okS c) (isP c x y) true)]) ∧ Below w.heap.size w w' := by
  have hA := fun p w hr hp => l01Asked_any p c hf x y hx hy true w hr hp
  by_cases ho : okS c = true
  case neg =>
    have ho1 := ho
    clear ho
    have ho : okS c = false := by simpa using ho1
    clear ho1
    have hK : askB (okS c) (isP c x y) true = 1 := by rw [ho]; rfl
    have hR : wetAtR c x y = 0 := by unfold wetAtR; simp [ho]
    simp only [hK] at hA
    rw [hK, hR]
    have HA := Lib.hid hA
    clear hA hK hR ho
    go_enter Try.func21, Try.ntmps21
    go_wp2_with ((go_at_call 56; refine (HA.out _ _ (by (go_simp <;> (intros; omega))) (by first | omega | (simp <;> omega))).mono ?_; rintro e w1 ⟨rfl, hb1⟩; have r1 := keep_rowA hb1; have f1 := keep_frA hb1; have s1 := hb1.size; try simp only [World.size_alloc, World.size_setCell, setRow_size, World.size_drew] at r1 f1 s1))
    refine bodyPost_ret (v := .tuple #[.int .i64 (0), .int .i64 1]) (res_tt rfl rfl rfl) rfl ⟨rfl, by repeat' (first | with_reducible exact Below.refl _ _ | with_reducible assumption | with_reducible refine Below.drew ?_ | with_reducible refine Below.drewN ?_ _ | with_reducible refine Below.alloc ?_ ?_ _ | with_reducible refine Below.setCell ?_ ?_ _ | with_reducible refine Below.setRow ?_ ?_ _ | with_reducible refine below_step (by assumption) ?_ ?_ | (show (_ : Nat) ≤ _; first | omega | (simp <;> omega)))⟩
  by_cases hi : isP c x y = true
  case neg =>
    have hi1 := hi
    clear hi
    have hi : isP c x y = false := by simpa using hi1
    clear hi1
    have hK : askB (okS c) (isP c x y) true = 2 := by rw [ho, hi]; rfl
    have hR : wetAtR c x y = 0 := by unfold wetAtR; simp [hi]
    simp only [hK] at hA
    rw [hK, hR]
    have HA := Lib.hid hA
    clear hA hK hR ho hi
    go_enter Try.func21, Try.ntmps21
    go_wp2_with ((go_at_call 56; refine (HA.out _ _ (by (go_simp <;> (intros; omega))) (by first | omega | (simp <;> omega))).mono ?_; rintro e w1 ⟨rfl, hb1⟩; have r1 := keep_rowA hb1; have f1 := keep_frA hb1; have s1 := hb1.size; try simp only [World.size_alloc, World.size_setCell, setRow_size, World.size_drew] at r1 f1 s1))
    refine bodyPost_ret (v := .tuple #[.int .i64 (0), .int .i64 2]) (res_tt rfl rfl rfl) rfl ⟨rfl, by repeat' (first | with_reducible exact Below.refl _ _ | with_reducible assumption | with_reducible refine Below.drew ?_ | with_reducible refine Below.drewN ?_ _ | with_reducible refine Below.alloc ?_ ?_ _ | with_reducible refine Below.setCell ?_ ?_ _ | with_reducible refine Below.setRow ?_ ?_ _ | with_reducible refine below_step (by assumption) ?_ ?_ | (show (_ : Nat) ≤ _; first | omega | (simp <;> omega)))⟩
  case pos =>
    obtain ⟨x, y, rfl, rfl, hx8, hy8⟩ := isP_nat ho hi
    have hK : askB (okS c) (isP c x y) true = 0 := by rw [ho, hi]; rfl
    have hR : wetAtR c x y = c (2 + y * 8 + x) := by unfold wetAtR; simp [ho, hi]
    simp only [hK] at hA
    rw [hK, hR]
    have HA := Lib.hid hA
    clear hA hK hR ho hi
    have hc0 := hf.cell (2 + y * 8 + x) (by omega) (by omega)
    go_enter Try.func21, Try.ntmps21
    go_wp2_with ((go_at_call 56; refine (HA.out _ _ (by (go_simp <;> (intros; omega))) (by first | omega | (simp <;> omega))).mono ?_; rintro e w1 ⟨rfl, hb1⟩; have r1 := keep_rowA hb1; have f1 := keep_frA hb1; have s1 := hb1.size; try simp only [World.size_alloc, World.size_setCell, setRow_size, World.size_drew] at r1 f1 s1))
    go_region
    go_wp2
    refine bodyPost_ret (v := .tuple #[.int .i64 (c (2 + y * 8 + x)), .int .i64 0]) (res_tt rfl rfl rfl) rfl ⟨rfl, by repeat' (first | with_reducible exact Below.refl _ _ | with_reducible assumption | with_reducible refine Below.drew ?_ | with_reducible refine Below.drewN ?_ _ | with_reducible refine Below.alloc ?_ ?_ _ | with_reducible refine Below.setCell ?_ ?_ _ | with_reducible refine Below.setRow ?_ ?_ _ | with_reducible refine below_step (by assumption) ?_ ?_ | (show (_ : Nat) ≤ _; first | omega | (simp <;> omega)))⟩
set_option maxHeartbeats 1000000 in
theorem iWetAt_any (c : Nat → Int) (hf : FitSheet c) (x y : Int) (hx : -128 ≤ x ∧ x ≤ 127) (hy : -128 ≤ y ∧ y ≤ 127) (w : World) :
    Calls Try.prog 22 #[.agg (kc sk 266 c), .agg #[.int .i8 x, .int .i8 y]] w fun e w' => e = .returned (.tuple #[.int .i64 (wetAtR c x y), .int .i64 (askB (okS c) (isP c x y) true)]) ∧ Below w.heap.size w w' := by
  have hA := fun p w hr hp => code_any p c hf (isP c x y) w hr hp
  have HS := Lib.hid (fun p w hr hp => has_any p c hf x y hx hy w hr hp)
  by_cases ho : okS c = true
  case neg =>
    have ho1 := ho
    clear ho
    have ho : okS c = false := by simpa using ho1
    clear ho1
    have hK : askB (okS c) (isP c x y) true = 1 := by rw [ho]; rfl
    have hR : wetAtR c x y = 0 := by unfold wetAtR; simp [ho]
    simp only [hK] at hA
    rw [hK, hR]
    have HA := Lib.hid hA
    clear hA hK hR ho
    go_enter Try.func22, Try.ntmps22
    go_wp2_with (first | (go_at_call 52; refine (HS.out _ _ (by (go_simp <;> (intros; omega))) (by first | omega | (simp <;> omega))).mono ?_; rintro e w1 ⟨rfl, hb1⟩; have r1 := keep_rowA hb1; have f1 := keep_frA hb1; have s1 := hb1.size; try simp only [World.size_alloc, World.size_setCell, setRow_size, World.size_drew] at r1 f1 s1) | (go_at_call 58; refine (HA.out _ _ (by (go_simp <;> (intros; omega))) (by first | omega | (simp <;> omega))).mono ?_; rintro e w1 ⟨rfl, hb1⟩; have r1 := keep_rowA hb1; have f1 := keep_frA hb1; have s1 := hb1.size; try simp only [World.size_alloc, World.size_setCell, setRow_size, World.size_drew] at r1 f1 s1))
    refine bodyPost_ret (v := .tuple #[.int .i64 (0), .int .i64 1]) (res_tt rfl rfl rfl) rfl ⟨rfl, by repeat' (first | with_reducible exact Below.refl _ _ | with_reducible assumption | with_reducible refine Below.drew ?_ | with_reducible refine Below.drewN ?_ _ | with_reducible refine Below.alloc ?_ ?_ _ | with_reducible refine Below.setCell ?_ ?_ _ | with_reducible refine Below.setRow ?_ ?_ _ | with_reducible refine below_step (by assumption) ?_ ?_ | (show (_ : Nat) ≤ _; first | omega | (simp <;> omega)))⟩
  by_cases hi : isP c x y = true
  case neg =>
    have hi1 := hi
    clear hi
    have hi : isP c x y = false := by simpa using hi1
    clear hi1
    have hK : askB (okS c) (isP c x y) true = 2 := by rw [ho, hi]; rfl
    have hR : wetAtR c x y = 0 := by unfold wetAtR; simp [hi]
    simp only [hK] at hA
    rw [hK, hR]
    have HA := Lib.hid hA
    clear hA hK hR ho hi
    go_enter Try.func22, Try.ntmps22
    go_wp2_with (first | (go_at_call 52; refine (HS.out _ _ (by (go_simp <;> (intros; omega))) (by first | omega | (simp <;> omega))).mono ?_; rintro e w1 ⟨rfl, hb1⟩; have r1 := keep_rowA hb1; have f1 := keep_frA hb1; have s1 := hb1.size; try simp only [World.size_alloc, World.size_setCell, setRow_size, World.size_drew] at r1 f1 s1) | (go_at_call 58; refine (HA.out _ _ (by (go_simp <;> (intros; omega))) (by first | omega | (simp <;> omega))).mono ?_; rintro e w1 ⟨rfl, hb1⟩; have r1 := keep_rowA hb1; have f1 := keep_frA hb1; have s1 := hb1.size; try simp only [World.size_alloc, World.size_setCell, setRow_size, World.size_drew] at r1 f1 s1))
    refine bodyPost_ret (v := .tuple #[.int .i64 (0), .int .i64 2]) (res_tt rfl rfl rfl) rfl ⟨rfl, by repeat' (first | with_reducible exact Below.refl _ _ | with_reducible assumption | with_reducible refine Below.drew ?_ | with_reducible refine Below.drewN ?_ _ | with_reducible refine Below.alloc ?_ ?_ _ | with_reducible refine Below.setCell ?_ ?_ _ | with_reducible refine Below.setRow ?_ ?_ _ | with_reducible refine below_step (by assumption) ?_ ?_ | (show (_ : Nat) ≤ _; first | omega | (simp <;> omega)))⟩
  case pos =>
    obtain ⟨x, y, rfl, rfl, hx8, hy8⟩ := isP_nat ho hi
    have hK : askB (okS c) (isP c x y) true = 0 := by rw [ho, hi]; rfl
    have hR : wetAtR c x y = c (2 + y * 8 + x) := by unfold wetAtR; simp [ho, hi]
    simp only [hK] at hA
    rw [hK, hR]
    have HA := Lib.hid hA
    clear hA hK hR ho hi
    have hc0 := hf.cell (2 + y * 8 + x) (by omega) (by omega)
    go_enter Try.func22, Try.ntmps22
    go_wp2_with (first | (go_at_call 52; refine (HS.out _ _ (by (go_simp <;> (intros; omega))) (by first | omega | (simp <;> omega))).mono ?_; rintro e w1 ⟨rfl, hb1⟩; have r1 := keep_rowA hb1; have f1 := keep_frA hb1; have s1 := hb1.size; try simp only [World.size_alloc, World.size_setCell, setRow_size, World.size_drew] at r1 f1 s1) | (go_at_call 58; refine (HA.out _ _ (by (go_simp <;> (intros; omega))) (by first | omega | (simp <;> omega))).mono ?_; rintro e w1 ⟨rfl, hb1⟩; have r1 := keep_rowA hb1; have f1 := keep_frA hb1; have s1 := hb1.size; try simp only [World.size_alloc, World.size_setCell, setRow_size, World.size_drew] at r1 f1 s1) | (go_at_call 54; refine (wet_any _ c hf x y hx8 hy8 _ (by (go_simp <;> (intros; omega))) (by first | omega | (simp <;> omega))).mono ?_; rintro e w1 ⟨rfl, hb1⟩; have r1 := keep_rowA hb1; have f1 := keep_frA hb1; have s1 := hb1.size; try simp only [World.size_alloc, World.size_setCell, setRow_size, World.size_drew] at r1 f1 s1))
    refine bodyPost_ret (v := .tuple #[.int .i64 (c (2 + y * 8 + x)), .int .i64 0]) (res_tt rfl rfl rfl) rfl ⟨rfl, by repeat' (first | with_reducible exact Below.refl _ _ | with_reducible assumption | with_reducible refine Below.drew ?_ | with_reducible refine Below.drewN ?_ _ | with_reducible refine Below.alloc ?_ ?_ _ | with_reducible refine Below.setCell ?_ ?_ _ | with_reducible refine Below.setRow ?_ ?_ _ | with_reducible refine below_step (by assumption) ?_ ?_ | (show (_ : Nat) ≤ _; first | omega | (simp <;> omega)))⟩
noncomputable def darkAtR (c : Nat → Int) (x y : Int) : Int := if okS c = true ∧ isP c x y = true then darkS c x.toNat y.toNat else 0
set_option maxHeartbeats 1000000 in
theorem sDarkAt_any (c : Nat → Int) (hf : FitSheet c) (x y : Int) (hx : -128 ≤ x ∧ x ≤ 127) (hy : -128 ≤ y ∧ y ≤ 127) (w : World) :
    Calls Try.prog 25 #[.agg (kc sk 266 c), .agg #[.int .i8 x, .int .i8 y]] w fun e w' => e = .returned (.tuple #[.int .i64 (darkAtR c x y), .int .i64 (askB (okS c) (isP c x y) true)]) ∧ Below w.heap.size w w' := by
  have hA := fun p w hr hp => l01Asked_any p c hf x y hx hy true w hr hp
  by_cases ho : okS c = true
  case neg =>
    have ho1 := ho
    clear ho
    have ho : okS c = false := by simpa using ho1
    clear ho1
    have hK : askB (okS c) (isP c x y) true = 1 := by rw [ho]; rfl
    have hR : darkAtR c x y = 0 := by unfold darkAtR; simp [ho]
    simp only [hK] at hA
    rw [hK, hR]
    have HA := Lib.hid hA
    clear hA hK hR ho
    go_enter Try.func25, Try.ntmps25
    go_wp2_with ((go_at_call 56; refine (HA.out _ _ (by (go_simp <;> (intros; omega))) (by first | omega | (simp <;> omega))).mono ?_; rintro e w1 ⟨rfl, hb1⟩; have r1 := keep_rowA hb1; have f1 := keep_frA hb1; have s1 := hb1.size; try simp only [World.size_alloc, World.size_setCell, setRow_size, World.size_drew] at r1 f1 s1))
    refine bodyPost_ret (v := .tuple #[.int .i64 (0), .int .i64 1]) (res_tt rfl rfl rfl) rfl ⟨rfl, by repeat' (first | with_reducible exact Below.refl _ _ | with_reducible assumption | with_reducible refine Below.drew ?_ | with_reducible refine Below.drewN ?_ _ | with_reducible refine Below.alloc ?_ ?_ _ | with_reducible refine Below.setCell ?_ ?_ _ | with_reducible refine Below.setRow ?_ ?_ _ | with_reducible refine below_step (by assumption) ?_ ?_ | (show (_ : Nat) ≤ _; first | omega | (simp <;> omega)))⟩
  by_cases hi : isP c x y = true
  case neg =>
    have hi1 := hi
    clear hi
    have hi : isP c x y = false := by simpa using hi1
    clear hi1
    have hK : askB (okS c) (isP c x y) true = 2 := by rw [ho, hi]; rfl
    have hR : darkAtR c x y = 0 := by unfold darkAtR; simp [hi]
    simp only [hK] at hA
    rw [hK, hR]
    have HA := Lib.hid hA
    clear hA hK hR ho hi
    go_enter Try.func25, Try.ntmps25
    go_wp2_with ((go_at_call 56; refine (HA.out _ _ (by (go_simp <;> (intros; omega))) (by first | omega | (simp <;> omega))).mono ?_; rintro e w1 ⟨rfl, hb1⟩; have r1 := keep_rowA hb1; have f1 := keep_frA hb1; have s1 := hb1.size; try simp only [World.size_alloc, World.size_setCell, setRow_size, World.size_drew] at r1 f1 s1))
    refine bodyPost_ret (v := .tuple #[.int .i64 (0), .int .i64 2]) (res_tt rfl rfl rfl) rfl ⟨rfl, by repeat' (first | with_reducible exact Below.refl _ _ | with_reducible assumption | with_reducible refine Below.drew ?_ | with_reducible refine Below.drewN ?_ _ | with_reducible refine Below.alloc ?_ ?_ _ | with_reducible refine Below.setCell ?_ ?_ _ | with_reducible refine Below.setRow ?_ ?_ _ | with_reducible refine below_step (by assumption) ?_ ?_ | (show (_ : Nat) ≤ _; first | omega | (simp <;> omega)))⟩
  case pos =>
    obtain ⟨x, y, rfl, rfl, hx8, hy8⟩ := isP_nat ho hi
    have hK : askB (okS c) (isP c x y) true = 0 := by rw [ho, hi]; rfl
    have hR : darkAtR c x y = darkS c x y := by unfold darkAtR; simp [ho, hi]
    simp only [hK] at hA
    rw [hK, hR]
    have HA := Lib.hid hA
    clear hA hK hR ho hi
    go_enter Try.func25, Try.ntmps25
    go_wp2_with (first | (go_at_call 56; refine (HA.out _ _ (by (go_simp <;> (intros; omega))) (by first | omega | (simp <;> omega))).mono ?_; rintro e w1 ⟨rfl, hb1⟩; have r1 := keep_rowA hb1; have f1 := keep_frA hb1; have s1 := hb1.size; try simp only [World.size_alloc, World.size_setCell, setRow_size, World.size_drew] at r1 f1 s1) | (go_at_call 61; refine (l01Dark_any _ c hf x y hx8 hy8 _ (by (go_simp <;> (intros; omega))) (by first | omega | (simp <;> omega))).mono ?_; rintro e w1 ⟨rfl, hb1⟩))
    refine bodyPost_ret (v := .tuple #[.int .i64 (darkS c x y), .int .i64 0]) (res_tt rfl rfl rfl) rfl ⟨rfl, by repeat' (first | with_reducible exact Below.refl _ _ | with_reducible assumption | with_reducible refine Below.drew ?_ | with_reducible refine Below.drewN ?_ _ | with_reducible refine Below.alloc ?_ ?_ _ | with_reducible refine Below.setCell ?_ ?_ _ | with_reducible refine Below.setRow ?_ ?_ _ | with_reducible refine below_step (by assumption) ?_ ?_ | (show (_ : Nat) ≤ _; first | omega | (simp <;> omega)))⟩
set_option maxHeartbeats 1000000 in
theorem iDarkAt_any (c : Nat → Int) (hf : FitSheet c) (x y : Int) (hx : -128 ≤ x ∧ x ≤ 127) (hy : -128 ≤ y ∧ y ≤ 127) (w : World) :
    Calls Try.prog 26 #[.agg (kc sk 266 c), .agg #[.int .i8 x, .int .i8 y]] w fun e w' => e = .returned (.tuple #[.int .i64 (darkAtR c x y), .int .i64 (askB (okS c) (isP c x y) true)]) ∧ Below w.heap.size w w' := by
  have hA := fun p w hr hp => code_any p c hf (isP c x y) w hr hp
  have HS := Lib.hid (fun p w hr hp => has_any p c hf x y hx hy w hr hp)
  by_cases ho : okS c = true
  case neg =>
    have ho1 := ho
    clear ho
    have ho : okS c = false := by simpa using ho1
    clear ho1
    have hK : askB (okS c) (isP c x y) true = 1 := by rw [ho]; rfl
    have hR : darkAtR c x y = 0 := by unfold darkAtR; simp [ho]
    simp only [hK] at hA
    rw [hK, hR]
    have HA := Lib.hid hA
    clear hA hK hR ho
    go_enter Try.func26, Try.ntmps26
    go_wp2_with (first | (go_at_call 52; refine (HS.out _ _ (by (go_simp <;> (intros; omega))) (by first | omega | (simp <;> omega))).mono ?_; rintro e w1 ⟨rfl, hb1⟩; have r1 := keep_rowA hb1; have f1 := keep_frA hb1; have s1 := hb1.size; try simp only [World.size_alloc, World.size_setCell, setRow_size, World.size_drew] at r1 f1 s1) | (go_at_call 58; refine (HA.out _ _ (by (go_simp <;> (intros; omega))) (by first | omega | (simp <;> omega))).mono ?_; rintro e w1 ⟨rfl, hb1⟩; have r1 := keep_rowA hb1; have f1 := keep_frA hb1; have s1 := hb1.size; try simp only [World.size_alloc, World.size_setCell, setRow_size, World.size_drew] at r1 f1 s1))
    refine bodyPost_ret (v := .tuple #[.int .i64 (0), .int .i64 1]) (res_tt rfl rfl rfl) rfl ⟨rfl, by repeat' (first | with_reducible exact Below.refl _ _ | with_reducible assumption | with_reducible refine Below.drew ?_ | with_reducible refine Below.drewN ?_ _ | with_reducible refine Below.alloc ?_ ?_ _ | with_reducible refine Below.setCell ?_ ?_ _ | with_reducible refine Below.setRow ?_ ?_ _ | with_reducible refine below_step (by assumption) ?_ ?_ | (show (_ : Nat) ≤ _; first | omega | (simp <;> omega)))⟩
  by_cases hi : isP c x y = true
  case neg =>
    have hi1 := hi
    clear hi
    have hi : isP c x y = false := by simpa using hi1
    clear hi1
    have hK : askB (okS c) (isP c x y) true = 2 := by rw [ho, hi]; rfl
    have hR : darkAtR c x y = 0 := by unfold darkAtR; simp [hi]
    simp only [hK] at hA
    rw [hK, hR]
    have HA := Lib.hid hA
    clear hA hK hR ho hi
    go_enter Try.func26, Try.ntmps26
    go_wp2_with (first | (go_at_call 52; refine (HS.out _ _ (by (go_simp <;> (intros; omega))) (by first | omega | (simp <;> omega))).mono ?_; rintro e w1 ⟨rfl, hb1⟩; have r1 := keep_rowA hb1; have f1 := keep_frA hb1; have s1 := hb1.size; try simp only [World.size_alloc, World.size_setCell, setRow_size, World.size_drew] at r1 f1 s1) | (go_at_call 58; refine (HA.out _ _ (by (go_simp <;> (intros; omega))) (by first | omega | (simp <;> omega))).mono ?_; rintro e w1 ⟨rfl, hb1⟩; have r1 := keep_rowA hb1; have f1 := keep_frA hb1; have s1 := hb1.size; try simp only [World.size_alloc, World.size_setCell, setRow_size, World.size_drew] at r1 f1 s1))
    refine bodyPost_ret (v := .tuple #[.int .i64 (0), .int .i64 2]) (res_tt rfl rfl rfl) rfl ⟨rfl, by repeat' (first | with_reducible exact Below.refl _ _ | with_reducible assumption | with_reducible refine Below.drew ?_ | with_reducible refine Below.drewN ?_ _ | with_reducible refine Below.alloc ?_ ?_ _ | with_reducible refine Below.setCell ?_ ?_ _ | with_reducible refine Below.setRow ?_ ?_ _ | with_reducible refine below_step (by assumption) ?_ ?_ | (show (_ : Nat) ≤ _; first | omega | (simp <;> omega)))⟩
  case pos =>
    obtain ⟨x, y, rfl, rfl, hx8, hy8⟩ := isP_nat ho hi
    have hK : askB (okS c) (isP c x y) true = 0 := by rw [ho, hi]; rfl
    have hR : darkAtR c x y = darkS c x y := by unfold darkAtR; simp [ho, hi]
    simp only [hK] at hA
    rw [hK, hR]
    have HA := Lib.hid hA
    clear hA hK hR ho hi
    go_enter Try.func26, Try.ntmps26
    go_wp2_with (first | (go_at_call 52; refine (HS.out _ _ (by (go_simp <;> (intros; omega))) (by first | omega | (simp <;> omega))).mono ?_; rintro e w1 ⟨rfl, hb1⟩; have r1 := keep_rowA hb1; have f1 := keep_frA hb1; have s1 := hb1.size; try simp only [World.size_alloc, World.size_setCell, setRow_size, World.size_drew] at r1 f1 s1) | (go_at_call 58; refine (HA.out _ _ (by (go_simp <;> (intros; omega))) (by first | omega | (simp <;> omega))).mono ?_; rintro e w1 ⟨rfl, hb1⟩; have r1 := keep_rowA hb1; have f1 := keep_frA hb1; have s1 := hb1.size; try simp only [World.size_alloc, World.size_setCell, setRow_size, World.size_drew] at r1 f1 s1) | (go_at_call 62; refine (dark_any _ c hf x y hx8 hy8 _ (by (go_simp <;> (intros; omega))) (by first | omega | (simp <;> omega))).mono ?_; rintro e w1 ⟨rfl, hb1⟩; have r1 := keep_rowA hb1; have f1 := keep_frA hb1; have s1 := hb1.size; try simp only [World.size_alloc, World.size_setCell, setRow_size, World.size_drew] at r1 f1 s1))
    refine bodyPost_ret (v := .tuple #[.int .i64 (darkS c x y), .int .i64 0]) (res_tt rfl rfl rfl) rfl ⟨rfl, by repeat' (first | with_reducible exact Below.refl _ _ | with_reducible assumption | with_reducible refine Below.drew ?_ | with_reducible refine Below.drewN ?_ _ | with_reducible refine Below.alloc ?_ ?_ _ | with_reducible refine Below.setCell ?_ ?_ _ | with_reducible refine Below.setRow ?_ ?_ _ | with_reducible refine below_step (by assumption) ?_ ?_ | (show (_ : Nat) ≤ _; first | omega | (simp <;> omega)))⟩
end Go.Proofs.Ytjfbolelanmndaa
