/- Ink goes over several times: the program. Written by gen_blot.py. -/
import Derived.Test.YtfcffihenmjafaaBlotV
import Derived.Test.YtfcffihenmjafaaBlotI
namespace Go.Proofs.Ytfcffihenmjafaa
open Go.RowKit
set_option linter.unusedVariables false
set_option linter.unusedSimpArgs false
set_option maxRecDepth 100000
theorem sameSides_b (c d : Nat → Int) (w : World) : Calls Try.prog 63 #[.agg (kc sk 266 c), .agg (kc sk 266 d)] w fun e w' => e = .returned (.bool (sidesB c d)) ∧ Below w.heap.size w w' := by
  by_cases h : c 0 = d 0
  · have hd : decide (c 0 = d 0) = true := decide_eq_true h
    go_enter Try.func63, Try.ntmps63
    go_wp2
    go_ret
    refine ⟨congrArg (fun z => Ending.returned (Value.bool z)) ?_, by repeat' (first | with_reducible exact Below.refl _ _ | with_reducible assumption | with_reducible refine Below.drew ?_ | with_reducible refine Below.drewN ?_ _ | with_reducible refine Below.alloc ?_ ?_ _ | with_reducible refine Below.setCell ?_ ?_ _ | with_reducible refine Below.setRow ?_ ?_ _ | with_reducible refine below_step (by assumption) ?_ ?_ | (show (_ : Nat) ≤ _; first | omega | (simp <;> omega)))⟩
    simp [sidesB, h]
    rfl
  · have hd : decide (c 0 = d 0) = false := decide_eq_false h
    go_enter Try.func63, Try.ntmps63
    go_wp2
    go_ret
    refine ⟨congrArg (fun z => Ending.returned (Value.bool z)) ?_, by repeat' (first | with_reducible exact Below.refl _ _ | with_reducible assumption | with_reducible refine Below.drew ?_ | with_reducible refine Below.drewN ?_ _ | with_reducible refine Below.alloc ?_ ?_ _ | with_reducible refine Below.setCell ?_ ?_ _ | with_reducible refine Below.setRow ?_ ?_ _ | with_reducible refine below_step (by assumption) ?_ ?_ | (show (_ : Nat) ≤ _; first | omega | (simp <;> omega)))⟩
    simp [sidesB, h]
set_option maxHeartbeats 8000000 in
theorem iBlotRounds_any (c d : Nat → Int) (hc : FitSheet c) (hd : FitSheet d) (p r : Int) (w : World) : Calls Try.prog 30 #[.agg (kc sk 266 c), .agg (kc sk 266 d), .int .i64 p, .int .i64 r] w fun e w' => e = .returned (blotV c d p r) ∧ Below w.heap.size w w' := by
  have hC := fun w => iValidSheet_any c hc w
  have hD := fun w => iValidSheet_any d hd w
  have hP := fun w => within_any p 1 8 w
  have hR := fun w => within_any r 0 30 w
  have hS := fun w => sameSides_b c d w
  by_cases hz : codeV c d p r = 0
  case neg =>
    rw [blotV_no hz]
    unfold codeV at hz ⊢
    generalize okS c = b1 at hC hz ⊢
    generalize okS d = b2 at hD hz ⊢
    generalize inB p 1 8 = b3 at hP hz ⊢
    generalize inB r 0 30 = b4 at hR hz ⊢
    generalize sidesB c d = b5 at hS hz ⊢
    have HC := Lib.hid hC
    have HD := Lib.hid hD
    have HP := Lib.hid hP
    have HR := Lib.hid hR
    have HS := Lib.hid hS
    clear hC hD hP hR hS
    cases b1
    case false =>
      rw [show codeB false b2 b3 b4 b5 = 1 by simp [codeB]]
      clear hz
      go_enter Try.func30, Try.ntmps30
      go_wp2_with (first | (go_at_call 50; with_reducible refine (HC.out _).mono ?_; rintro e w1 ⟨rfl, hb1⟩; have r1 := keep_rowA hb1; have f1 := keep_frA hb1; have s1 := hb1.size; (try simp only [World.size_alloc, World.size_setCell, setRow_size, World.size_drew, size_drewNm] at r1 f1 s1)) | (go_at_call 50; with_reducible refine (HD.out _).mono ?_; rintro e w1 ⟨rfl, hb1⟩; have r1 := keep_rowA hb1; have f1 := keep_frA hb1; have s1 := hb1.size; (try simp only [World.size_alloc, World.size_setCell, setRow_size, World.size_drew, size_drewNm] at r1 f1 s1)) | (go_at_call 61; (with_reducible refine (HP.out _).mono ?_); rintro e w1 ⟨rfl, rfl⟩) | (go_at_call 61; (with_reducible refine (HR.out _).mono ?_); rintro e w1 ⟨rfl, rfl⟩) | (go_at_call 63; refine (HS.out _).mono ?_; rintro e w1 ⟨rfl, hb1⟩; have r1 := keep_rowA hb1; have f1 := keep_frA hb1; have s1 := hb1.size; (try simp only [World.size_alloc, World.size_setCell, setRow_size, World.size_drew, size_drewNm] at r1 f1 s1)))
      exact bodyPost_ret (v := .tuple #[.agg (kc sk 266 fun _ => 0), .agg (kc sk 266 fun _ => 0), .int .i64 0, .int .i64 1]) (res_cctt rfl rfl (by (go_simp <;> (intros; omega))) rfl (by (go_simp <;> (intros; omega))) rfl rfl) rfl ⟨rfl, by repeat' (first | with_reducible exact Below.refl _ _ | with_reducible assumption | with_reducible refine Below.drew ?_ | with_reducible refine Below.drewN ?_ _ | with_reducible refine Below.alloc ?_ ?_ _ | with_reducible refine Below.setCell ?_ ?_ _ | with_reducible refine Below.setRow ?_ ?_ _ | with_reducible refine below_step (by assumption) ?_ ?_ | (show (_ : Nat) ≤ _; first | omega | (simp <;> omega)))⟩
    cases b2
    case false =>
      rw [show codeB true false b3 b4 b5 = 1 by simp [codeB]]
      clear hz
      go_enter Try.func30, Try.ntmps30
      go_wp2_with (first | (go_at_call 50; with_reducible refine (HC.out _).mono ?_; rintro e w1 ⟨rfl, hb1⟩; have r1 := keep_rowA hb1; have f1 := keep_frA hb1; have s1 := hb1.size; (try simp only [World.size_alloc, World.size_setCell, setRow_size, World.size_drew, size_drewNm] at r1 f1 s1)) | (go_at_call 50; with_reducible refine (HD.out _).mono ?_; rintro e w1 ⟨rfl, hb1⟩; have r1 := keep_rowA hb1; have f1 := keep_frA hb1; have s1 := hb1.size; (try simp only [World.size_alloc, World.size_setCell, setRow_size, World.size_drew, size_drewNm] at r1 f1 s1)) | (go_at_call 61; (with_reducible refine (HP.out _).mono ?_); rintro e w1 ⟨rfl, rfl⟩) | (go_at_call 61; (with_reducible refine (HR.out _).mono ?_); rintro e w1 ⟨rfl, rfl⟩) | (go_at_call 63; refine (HS.out _).mono ?_; rintro e w1 ⟨rfl, hb1⟩; have r1 := keep_rowA hb1; have f1 := keep_frA hb1; have s1 := hb1.size; (try simp only [World.size_alloc, World.size_setCell, setRow_size, World.size_drew, size_drewNm] at r1 f1 s1)))
      exact bodyPost_ret (v := .tuple #[.agg (kc sk 266 fun _ => 0), .agg (kc sk 266 fun _ => 0), .int .i64 0, .int .i64 1]) (res_cctt rfl rfl (by (go_simp <;> (intros; omega))) rfl (by (go_simp <;> (intros; omega))) rfl rfl) rfl ⟨rfl, by repeat' (first | with_reducible exact Below.refl _ _ | with_reducible assumption | with_reducible refine Below.drew ?_ | with_reducible refine Below.drewN ?_ _ | with_reducible refine Below.alloc ?_ ?_ _ | with_reducible refine Below.setCell ?_ ?_ _ | with_reducible refine Below.setRow ?_ ?_ _ | with_reducible refine below_step (by assumption) ?_ ?_ | (show (_ : Nat) ≤ _; first | omega | (simp <;> omega)))⟩
    cases b3
    case false =>
      rw [show codeB true true false b4 b5 = 2 by simp [codeB]]
      clear hz
      go_enter Try.func30, Try.ntmps30
      go_wp2_with (first | (go_at_call 50; with_reducible refine (HC.out _).mono ?_; rintro e w1 ⟨rfl, hb1⟩; have r1 := keep_rowA hb1; have f1 := keep_frA hb1; have s1 := hb1.size; (try simp only [World.size_alloc, World.size_setCell, setRow_size, World.size_drew, size_drewNm] at r1 f1 s1)) | (go_at_call 50; with_reducible refine (HD.out _).mono ?_; rintro e w1 ⟨rfl, hb1⟩; have r1 := keep_rowA hb1; have f1 := keep_frA hb1; have s1 := hb1.size; (try simp only [World.size_alloc, World.size_setCell, setRow_size, World.size_drew, size_drewNm] at r1 f1 s1)) | (go_at_call 61; (with_reducible refine (HP.out _).mono ?_); rintro e w1 ⟨rfl, rfl⟩) | (go_at_call 61; (with_reducible refine (HR.out _).mono ?_); rintro e w1 ⟨rfl, rfl⟩) | (go_at_call 63; refine (HS.out _).mono ?_; rintro e w1 ⟨rfl, hb1⟩; have r1 := keep_rowA hb1; have f1 := keep_frA hb1; have s1 := hb1.size; (try simp only [World.size_alloc, World.size_setCell, setRow_size, World.size_drew, size_drewNm] at r1 f1 s1)))
      exact bodyPost_ret (v := .tuple #[.agg (kc sk 266 fun _ => 0), .agg (kc sk 266 fun _ => 0), .int .i64 0, .int .i64 2]) (res_cctt rfl rfl (by (go_simp <;> (intros; omega))) rfl (by (go_simp <;> (intros; omega))) rfl rfl) rfl ⟨rfl, by repeat' (first | with_reducible exact Below.refl _ _ | with_reducible assumption | with_reducible refine Below.drew ?_ | with_reducible refine Below.drewN ?_ _ | with_reducible refine Below.alloc ?_ ?_ _ | with_reducible refine Below.setCell ?_ ?_ _ | with_reducible refine Below.setRow ?_ ?_ _ | with_reducible refine below_step (by assumption) ?_ ?_ | (show (_ : Nat) ≤ _; first | omega | (simp <;> omega)))⟩
    cases b4
    case false =>
      rw [show codeB true true true false b5 = 2 by simp [codeB]]
      clear hz
      go_enter Try.func30, Try.ntmps30
      go_wp2_with (first | (go_at_call 50; with_reducible refine (HC.out _).mono ?_; rintro e w1 ⟨rfl, hb1⟩; have r1 := keep_rowA hb1; have f1 := keep_frA hb1; have s1 := hb1.size; (try simp only [World.size_alloc, World.size_setCell, setRow_size, World.size_drew, size_drewNm] at r1 f1 s1)) | (go_at_call 50; with_reducible refine (HD.out _).mono ?_; rintro e w1 ⟨rfl, hb1⟩; have r1 := keep_rowA hb1; have f1 := keep_frA hb1; have s1 := hb1.size; (try simp only [World.size_alloc, World.size_setCell, setRow_size, World.size_drew, size_drewNm] at r1 f1 s1)) | (go_at_call 61; (with_reducible refine (HP.out _).mono ?_); rintro e w1 ⟨rfl, rfl⟩) | (go_at_call 61; (with_reducible refine (HR.out _).mono ?_); rintro e w1 ⟨rfl, rfl⟩) | (go_at_call 63; refine (HS.out _).mono ?_; rintro e w1 ⟨rfl, hb1⟩; have r1 := keep_rowA hb1; have f1 := keep_frA hb1; have s1 := hb1.size; (try simp only [World.size_alloc, World.size_setCell, setRow_size, World.size_drew, size_drewNm] at r1 f1 s1)))
      exact bodyPost_ret (v := .tuple #[.agg (kc sk 266 fun _ => 0), .agg (kc sk 266 fun _ => 0), .int .i64 0, .int .i64 2]) (res_cctt rfl rfl (by (go_simp <;> (intros; omega))) rfl (by (go_simp <;> (intros; omega))) rfl rfl) rfl ⟨rfl, by repeat' (first | with_reducible exact Below.refl _ _ | with_reducible assumption | with_reducible refine Below.drew ?_ | with_reducible refine Below.drewN ?_ _ | with_reducible refine Below.alloc ?_ ?_ _ | with_reducible refine Below.setCell ?_ ?_ _ | with_reducible refine Below.setRow ?_ ?_ _ | with_reducible refine below_step (by assumption) ?_ ?_ | (show (_ : Nat) ≤ _; first | omega | (simp <;> omega)))⟩
    cases b5
    case false =>
      rw [show codeB true true true true false = 4 by simp [codeB]]
      clear hz
      go_enter Try.func30, Try.ntmps30
      go_wp2_with (first | (go_at_call 50; with_reducible refine (HC.out _).mono ?_; rintro e w1 ⟨rfl, hb1⟩; have r1 := keep_rowA hb1; have f1 := keep_frA hb1; have s1 := hb1.size; (try simp only [World.size_alloc, World.size_setCell, setRow_size, World.size_drew, size_drewNm] at r1 f1 s1)) | (go_at_call 50; with_reducible refine (HD.out _).mono ?_; rintro e w1 ⟨rfl, hb1⟩; have r1 := keep_rowA hb1; have f1 := keep_frA hb1; have s1 := hb1.size; (try simp only [World.size_alloc, World.size_setCell, setRow_size, World.size_drew, size_drewNm] at r1 f1 s1)) | (go_at_call 61; (with_reducible refine (HP.out _).mono ?_); rintro e w1 ⟨rfl, rfl⟩) | (go_at_call 61; (with_reducible refine (HR.out _).mono ?_); rintro e w1 ⟨rfl, rfl⟩) | (go_at_call 63; refine (HS.out _).mono ?_; rintro e w1 ⟨rfl, hb1⟩; have r1 := keep_rowA hb1; have f1 := keep_frA hb1; have s1 := hb1.size; (try simp only [World.size_alloc, World.size_setCell, setRow_size, World.size_drew, size_drewNm] at r1 f1 s1)))
      exact bodyPost_ret (v := .tuple #[.agg (kc sk 266 fun _ => 0), .agg (kc sk 266 fun _ => 0), .int .i64 0, .int .i64 4]) (res_cctt rfl rfl (by (go_simp <;> (intros; omega))) rfl (by (go_simp <;> (intros; omega))) rfl rfl) rfl ⟨rfl, by repeat' (first | with_reducible exact Below.refl _ _ | with_reducible assumption | with_reducible refine Below.drew ?_ | with_reducible refine Below.drewN ?_ _ | with_reducible refine Below.alloc ?_ ?_ _ | with_reducible refine Below.setCell ?_ ?_ _ | with_reducible refine Below.setRow ?_ ?_ _ | with_reducible refine below_step (by assumption) ?_ ?_ | (show (_ : Nat) ≤ _; first | omega | (simp <;> omega)))⟩
    exact absurd (by simp [codeB]) hz
  have hcv : codeV c d p r = 0 := hz
  obtain ⟨oc, od, ⟨p1, p2⟩, ⟨r1, r2⟩, s0, s1⟩ := codeV_zero hcv
  obtain ⟨W, H, hW, hH, W0, H0, W8, H8⟩ := okS_sides oc
  have hgood := good_start hc hd oc od hW hH
  have hn64 : H * W ≤ 64 := by have := Nat.mul_le_mul H8 W8; omega
  have hpr := inB_true.2 ⟨p1, p2⟩
  have hrr := inB_true.2 ⟨r1, r2⟩
  have hss := sidesB_true.2 ⟨s0, s1⟩
  rw [oc] at hC
  rw [od] at hD
  rw [hpr] at hP
  rw [hrr] at hR
  rw [hss] at hS
  have HC := Lib.hid hC
  have HD := Lib.hid hD
  have HP := Lib.hid hP
  have HR := Lib.hid hR
  have HS := Lib.hid hS
  clear hC hD hP hR hS hpr hrr hss
  obtain ⟨R, rfl⟩ : ∃ R : Nat, r = R := ⟨r.toNat, by omega⟩
  have HV := Lib.hid (blotV_yes hcv hW hH rfl)
  have hHW : H * W ≤ H * W := Nat.le_refl _
  have HGR := Lib.hid (fun k => goodR (p := p) (n := H * W) ⟨p1, p2⟩ W0 W8 H8 hgood hHW hn64 k)
  clear hcv hz oc od hW hH hgood s0 s1 hHW
  go_enter Try.func30, Try.ntmps30
  go_wp2_with (first | (go_at_call 50; with_reducible refine (HC.out _).mono ?_; rintro e w1 ⟨rfl, hb1⟩; have r1 := keep_rowA hb1; have f1 := keep_frA hb1; have s1 := hb1.size; (try simp only [World.size_alloc, World.size_setCell, setRow_size, World.size_drew, size_drewNm] at r1 f1 s1)) | (go_at_call 50; with_reducible refine (HD.out _).mono ?_; rintro e w1 ⟨rfl, hb1⟩; have r1 := keep_rowA hb1; have f1 := keep_frA hb1; have s1 := hb1.size; (try simp only [World.size_alloc, World.size_setCell, setRow_size, World.size_drew, size_drewNm] at r1 f1 s1)) | (go_at_call 61; (with_reducible refine (HP.out _).mono ?_); rintro e w1 ⟨rfl, rfl⟩) | (go_at_call 61; (with_reducible refine (HR.out _).mono ?_); rintro e w1 ⟨rfl, rfl⟩) | (go_at_call 63; refine (HS.out _).mono ?_; rintro e w1 ⟨rfl, hb1⟩; have r1 := keep_rowA hb1; have f1 := keep_frA hb1; have s1 := hb1.size; (try simp only [World.size_alloc, World.size_setCell, setRow_size, World.size_drew, size_drewNm] at r1 f1 s1)))
  go_loopw [43, 12] (fun i s wr => ∃ k : Nat, k ≤ R ∧ i = .int .i64 k ∧ s = .int .i64 (blR p W (H * W) ⟨c, d, 0⟩ k).m ∧ RndR c d p W (H * W) w k wr) (fun i s wr => R - (intOf i).toNat)
  case atStart => exact ⟨0, by omega, rfl, rfl, by repeat' (first | with_reducible exact Below.refl _ _ | with_reducible assumption | with_reducible refine Below.drew ?_ | with_reducible refine Below.drewN ?_ _ | with_reducible refine Below.alloc ?_ ?_ _ | with_reducible refine Below.setCell ?_ ?_ _ | with_reducible refine Below.setRow ?_ ?_ _ | with_reducible refine below_step (by assumption) ?_ ?_ | (show (_ : Nat) ≤ _; first | omega | (simp <;> omega))), (by first | omega | (simp <;> omega)), by show rowOf _ _ = kc sk 266 c; (go_simp <;> (intros; omega)), by (go_simp <;> (intros; omega)), by show rowOf _ _ = kc sk 266 d; (go_simp <;> (intros; omega)), by (go_simp <;> (intros; omega)), by (go_simp <;> (intros; omega)), by (go_simp <;> (intros; omega)), by (go_simp <;> (intros; omega)), by (go_simp <;> (intros; omega))⟩
  case round =>
    obtain ⟨k, hk, rfl, rfl, hbl, hsz, hr1, hf1, hr2, hf2, hr3, hf3, hr4, hf4⟩ := hrel
    have hszw := hbl.size
    by_cases hlt : k < R
    · have hgk := HGR.out k
      have HGK := Lib.hid (good_zero hgk)
      have hm1 := hgk.m0
      have hm2 := (HGR.out (k + 1)).m0
      have HN := Lib.hid (blR_next p W (H * W) ⟨c, d, 0⟩ k)
      have hN3 := HN.out.2.2
      rw [hN3] at hm2
      generalize blR p W (H * W) ⟨c, d, 0⟩ k = t at *
      obtain ⟨tc, td, tm⟩ := t
      simp only at hr1 hr2 hm1 hm2 HGK HN ⊢
      have hmm : (blN p W ⟨tc, td, 0⟩ (H * W)).m + tm ≤ 6000000 := by omega
      have hm3 : 0 ≤ tm + (blN p W ⟨tc, td, 0⟩ (H * W)).m := by omega
      clear hgk hN3
      generalize hbn : blN p W ⟨tc, td, 0⟩ (H * W) = u at *
      go_wp2_with (go_at_call 71; refine (blot_any w.heap.size (w.heap.size + 1) w.heap.size (by omega) (Nat.le_refl _) (by omega) tc td W H W0 H0 W8 H8 HGK.out p ⟨p1, p2⟩ _ (by (go_simp <;> (intros; omega))) (by first | omega | (simp <;> omega)) (by (go_simp <;> (intros; omega))) (by first | omega | (simp <;> omega)) (by (go_simp <;> (intros; omega))) (by (go_simp <;> (intros; omega)))).mono ?_; rintro e w2 ⟨rfl, hp2, hq2, hf2, hg2, hs2, ho2, hb2⟩; have e1 := ho2 (w.heap.size + 1 + 1) (by omega) (by omega) (by first | omega | (simp <;> omega)); have e2 := ho2 (w.heap.size + 1 + 1 + 1) (by omega) (by omega) (by first | omega | (simp <;> omega)); clear ho2; (try simp only [World.size_alloc, World.size_setCell, setRow_size, World.size_drew, size_drewNm] at hs2))
      go_roundw
      case rel => first | exact ⟨k + 1, by omega, by go_num, by rw [HN.out.2.2], by repeat' (first | with_reducible exact Below.refl _ _ | with_reducible assumption | with_reducible refine Below.drew ?_ | with_reducible refine Below.drewN ?_ _ | with_reducible refine Below.alloc ?_ ?_ _ | with_reducible refine Below.setCell ?_ ?_ _ | with_reducible refine Below.setRow ?_ ?_ _ | with_reducible refine below_step (by assumption) ?_ ?_ | (show (_ : Nat) ≤ _; first | omega | (simp <;> omega))), (by first | omega | (simp <;> omega)), by rw [HN.out.1]; (go_simp <;> (intros; omega)), by (go_simp <;> (intros; omega)), by rw [HN.out.2.1]; (go_simp <;> (intros; omega)), by (go_simp <;> (intros; omega)), by (go_simp <;> (intros; omega)), by (go_simp <;> (intros; omega)), by (go_simp <;> (intros; omega)), by (go_simp <;> (intros; omega))⟩ | ((repeat (with_reducible apply Exists.intro)); refine And.intro ?_ ?_; rotate_left; focus ((repeat' (with_reducible apply And.intro)) <;> rfl); exact ⟨k + 1, by omega, by go_num, by rw [HN.out.2.2], by repeat' (first | with_reducible exact Below.refl _ _ | with_reducible assumption | with_reducible refine Below.drew ?_ | with_reducible refine Below.drewN ?_ _ | with_reducible refine Below.alloc ?_ ?_ _ | with_reducible refine Below.setCell ?_ ?_ _ | with_reducible refine Below.setRow ?_ ?_ _ | with_reducible refine below_step (by assumption) ?_ ?_ | (show (_ : Nat) ≤ _; first | omega | (simp <;> omega))), (by first | omega | (simp <;> omega)), by rw [HN.out.1]; (go_simp <;> (intros; omega)), by (go_simp <;> (intros; omega)), by rw [HN.out.2.1]; (go_simp <;> (intros; omega)), by (go_simp <;> (intros; omega)), by (go_simp <;> (intros; omega)), by (go_simp <;> (intros; omega)), by (go_simp <;> (intros; omega)), by (go_simp <;> (intros; omega))⟩)
      case measure => simp [intOf]; omega
    · have hke : k = R := by omega
      subst hke
      generalize blR p W (H * W) ⟨c, d, 0⟩ k = t at *
      go_wp2
      go_region
      all_goals
        go_wp2
        rw [HV.out]
        exact bodyPost_ret (v := .tuple #[.agg (kc sk 266 t.c), .agg (kc sk 266 t.d), .int .i64 t.m, .int .i64 0]) (res_cctt rfl rfl (by (go_simp <;> (intros; omega))) rfl (by (go_simp <;> (intros; omega))) rfl rfl) rfl ⟨rfl, by repeat' (first | with_reducible exact Below.refl _ _ | with_reducible assumption | with_reducible refine Below.drew ?_ | with_reducible refine Below.drewN ?_ _ | with_reducible refine Below.alloc ?_ ?_ _ | with_reducible refine Below.setCell ?_ ?_ _ | with_reducible refine Below.setRow ?_ ?_ _ | with_reducible refine below_step (by assumption) ?_ ?_ | (show (_ : Nat) ≤ _; first | omega | (simp <;> omega)))⟩
end Go.Proofs.Ytfcffihenmjafaa
