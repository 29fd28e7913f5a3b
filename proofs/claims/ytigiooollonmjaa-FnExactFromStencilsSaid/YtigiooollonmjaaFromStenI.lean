/- The picture that three stencils make, in both. Written by gen_fromsten.py. -/
import Derived.Test.YtigiooollonmjaaStenP
import Derived.Test.YtigiooollonmjaaBlank
namespace Go.Proofs.Ytigiooollonmjaa
open Go.RowKit
set_option linter.unusedVariables false
set_option linter.unusedSimpArgs false
set_option maxRecDepth 100000
set_option maxHeartbeats 8000000 in
theorem iFromSten_any (s : Nat → Int) (hs : FitRow (fun _ => .u8) 24 s) (a b : Int) (w : World) : Calls Try.prog 26 #[.int .i64 a, .int .i64 b, .agg (kc (fun _ => .u8) 24 s)] w fun e w' => e = .returned (stenV s a b) ∧ Below w.heap.size w w' := by
  have hB := fun w => iBlankPicture_any a b w
  cases ha : inB a 1 8
  case false =>
    rw [blankV_no1 ha] at hB
    rw [stenV_no (by simp [ha])]
    have HB := Lib.hid hB
    clear hB ha hs
    go_enter Try.func26, Try.ntmps26
    go_wp2_with ((go_at_call 81; refine (HB.out _).mono ?_; rintro e w1 ⟨rfl, hb1⟩; have r1 := keep_rowA hb1; have f1 := keep_frA hb1; have s1 := hb1.size; (try simp only [World.size_alloc, World.size_setCell, setRow_size, World.size_drew] at r1 f1 s1)))
    refine bodyPost_ret (v := .tuple #[.agg (kc pk 66 fun _ => 0), .int .i64 2]) (res_ct rfl rfl (by (go_simp <;> (intros; omega))) rfl) rfl ⟨rfl, by repeat' (first | with_reducible exact Below.refl _ _ | with_reducible assumption | with_reducible refine Below.drew ?_ | with_reducible refine Below.drewN ?_ _ | with_reducible refine Below.alloc ?_ ?_ _ | with_reducible refine Below.setCell ?_ ?_ _ | with_reducible refine Below.setRow ?_ ?_ _ | with_reducible refine below_step (by assumption) ?_ ?_ | (show (_ : Nat) ≤ _; first | omega | (simp <;> omega)))⟩
  cases hb : inB b 1 8
  case false =>
    rw [blankV_no2 hb] at hB
    rw [stenV_no (by simp [hb])]
    have HB := Lib.hid hB
    clear hB ha hb hs
    go_enter Try.func26, Try.ntmps26
    go_wp2_with ((go_at_call 81; refine (HB.out _).mono ?_; rintro e w1 ⟨rfl, hb1⟩; have r1 := keep_rowA hb1; have f1 := keep_frA hb1; have s1 := hb1.size; (try simp only [World.size_alloc, World.size_setCell, setRow_size, World.size_drew] at r1 f1 s1)))
    refine bodyPost_ret (v := .tuple #[.agg (kc pk 66 fun _ => 0), .int .i64 2]) (res_ct rfl rfl (by (go_simp <;> (intros; omega))) rfl) rfl ⟨rfl, by repeat' (first | with_reducible exact Below.refl _ _ | with_reducible assumption | with_reducible refine Below.drew ?_ | with_reducible refine Below.drewN ?_ _ | with_reducible refine Below.alloc ?_ ?_ _ | with_reducible refine Below.setCell ?_ ?_ _ | with_reducible refine Below.setRow ?_ ?_ _ | with_reducible refine below_step (by assumption) ?_ ?_ | (show (_ : Nat) ≤ _; first | omega | (simp <;> omega)))⟩
  rw [blankV_yes ha hb] at hB
  have HB := Lib.hid hB
  have HA := Lib.hid ha
  have HBB := Lib.hid hb
  have ha2 := inB_true.1 ha
  have hb2 := inB_true.1 hb
  have HS := Lib.hid (fun j hj => bd_u8 (hs j hj))
  clear hB ha hb hs
  obtain ⟨A, rfl⟩ : ∃ A : Nat, a = A := ⟨a.toNat, by omega⟩
  have hA8 : A ≤ 8 := by omega
  go_enter Try.func26, Try.ntmps26
  go_wp2_with ((go_at_call 81; refine (HB.out _).mono ?_; rintro e w1 ⟨rfl, hb1⟩; have r1 := keep_rowA hb1; have f1 := keep_frA hb1; have s1 := hb1.size; (try simp only [World.size_alloc, World.size_setCell, setRow_size, World.size_drew] at r1 f1 s1)))
  go_loopw [26] (fun i wr => ∃ k : Nat, k ≤ 3 ∧ i = .int .i64 k ∧ StR s A b w w1.heap.size k 0 wr) (fun i wr => 3 - (intOf i).toNat)
  case atStart => exact ⟨0, by omega, rfl, by repeat' (first | with_reducible exact Below.refl _ _ | with_reducible assumption | with_reducible refine Below.drew ?_ | with_reducible refine Below.drewN ?_ _ | with_reducible refine Below.alloc ?_ ?_ _ | with_reducible refine Below.setCell ?_ ?_ _ | with_reducible refine Below.setRow ?_ ?_ _ | with_reducible refine below_step (by assumption) ?_ ?_ | (show (_ : Nat) ≤ _; first | omega | (simp <;> omega))), (by first | omega | (simp <;> omega)), by (go_simp <;> (intros; omega)), by (go_simp <;> (intros; omega)), by (go_simp <;> (intros; omega)), by rw [← stP_start]; go_simp <;> (intros; first | rfl | omega), by (go_simp <;> (intros; omega)), fun i' h => absurd h (by omega), fun m h => absurd h (by omega)⟩
  case round =>
    obtain ⟨k, hk, rfl, hbl, hsz, hrs, hrz, hfz, hrp, hfp, hg1, hg2⟩ := hrel
    obtain ⟨wo, rfl⟩ : ∃ wo : World, wo = wr := ⟨_, rfl⟩
    have HG1 := Lib.hid hg1
    clear hg1 hg2
    by_cases hk3 : k < 3
    · have hd3 : decide ((k : Int) < 3) = true := decide_eq_true (by omega)
      go_wp2
      go_loopw [31] (fun i wr => ∃ y : Nat, y ≤ 8 ∧ i = .int .i64 y ∧ StR s A b w w1.heap.size k (y * 8) wr) (fun i wr => 8 - (intOf i).toNat)
      case atStart => exact ⟨0, by omega, rfl, by repeat' (first | with_reducible exact Below.refl _ _ | with_reducible assumption | with_reducible refine Below.drew ?_ | with_reducible refine Below.drewN ?_ _ | with_reducible refine Below.alloc ?_ ?_ _ | with_reducible refine Below.setCell ?_ ?_ _ | with_reducible refine Below.setRow ?_ ?_ _ | with_reducible refine below_step (by assumption) ?_ ?_ | (show (_ : Nat) ≤ _; first | omega | (simp <;> omega))), (by first | omega | (simp <;> omega)), by (go_simp <;> (intros; omega)), by (go_simp <;> (intros; omega)), by (go_simp <;> (intros; omega)), by (go_simp <;> (intros; omega)), by (go_simp <;> (intros; omega)), HG1.out, fun m h => absurd h (by omega)⟩
      case round =>
        obtain ⟨y, hy, rfl, hbl, hsz, hrs, hrz, hfz, hrp, hfp, hg1, hg2⟩ := hrel
        obtain ⟨wo, rfl⟩ : ∃ wo : World, wo = wr := ⟨_, rfl⟩
        have HG2 := Lib.hid hg2
        clear hg1 hg2
        by_cases hy8 : y < 8
        · have hd8 : decide ((y : Int) < 8) = true := decide_eq_true (by omega)
          have hq := HS.out (k * 8 + y) (by omega)
          have HW := Lib.hid (wide_none hq.1 hq.2 hA8)
          have H0 := Lib.hid (wide_none hq.1 hq.2 (Nat.zero_le 8))
          have hp0 : s (k * 8 + y) / 2 ^ 0 = s (k * 8 + y) := by simp
          rw [hp0] at H0
          clear hp0
          by_cases hwide : s (k * 8 + y) / 2 ^ A = 0
          · have hww : (s (k * 8 + y) / 2 ^ A == 0) = true := by simpa using hwide
            have hwwn : (s (k * 8 + y) / 2 ^ A != 0) = false := by simp [bne, hww]
            have HWX := Lib.hid (HW.out.1 hwide)
            by_cases hz0 : s (k * 8 + y) = 0
            · have hzz : (s (k * 8 + y) == 0) = true := by simpa using hz0
              have hzzn : (s (k * 8 + y) != 0) = false := by simp [bne, hzz]
              have HROW := Lib.hid (show ∀ x, x < 8 → bitR (s (k * 8 + y)) x = true → (x : Int) < A ∧ (y : Int) < b from fun x hx h => by
                have := H0.out.1 hz0 x hx (by omega)
                rw [this] at h; cases h)
              clear hwide hz0
              go_wp2
              go_loopw [49] (fun i wr => ∃ x : Nat, x ≤ 8 ∧ i = .int .i64 x ∧ StR s A b w w1.heap.size k (y * 8 + x) wr) (fun i wr => 8 - (intOf i).toNat)
              case atStart => exact ⟨0, by omega, rfl, by repeat' (first | with_reducible exact Below.refl _ _ | with_reducible assumption | with_reducible refine Below.drew ?_ | with_reducible refine Below.drewN ?_ _ | with_reducible refine Below.alloc ?_ ?_ _ | with_reducible refine Below.setCell ?_ ?_ _ | with_reducible refine Below.setRow ?_ ?_ _ | with_reducible refine below_step (by assumption) ?_ ?_ | (show (_ : Nat) ≤ _; first | omega | (simp <;> omega))), (by first | omega | (simp <;> omega)), by (go_simp <;> (intros; omega)), by (go_simp <;> (intros; omega)), by (go_simp <;> (intros; omega)), by (go_simp <;> (intros; omega)), by (go_simp <;> (intros; omega)), HG1.out, HG2.out⟩
              case round =>
                obtain ⟨x, hx, rfl, hbl, hsz, hrs, hrz, hfz, hrp, hfp, hg1, hg2⟩ := hrel
                have HG3 := Lib.hid hg2
                have hszw := hbl.size
                clear hg1 hg2
                by_cases hx8 : x < 8
                · have HN := Lib.hid (stP_no (s := s) (a := A) (b := b) (i := k) (m := y * 8 + x))
                  have HY := Lib.hid (stP_yes (s := s) (a := A) (b := b) (i := k) (m := y * 8 + x))
                  rw [bitS_at hx8] at HN HY
                  have HGD := Lib.hid (goodS_at (s := s) (a := A) (b := b) (i := k) (y := y) (x := x) hx8)
                  rcases Bool.eq_false_or_eq_true (bitR (s (k * 8 + y)) x) with hbit | hbit
                  · have hz : (bits BinOp.and IntKind.u8 (s (k * 8 + y) / 2 ^ x) 1 == 1) = true := hbit
                    have HYK := Lib.hid (HY.out hbit (by omega))
                    have HGX := Lib.hid (HGD.out.2 (fun _ => HROW.out x hx8 hbit))
                    rw [← Nat.add_assoc] at HYK
                    clear hbit HN HY
                    generalize hst : stP s A b k (y * 8 + x) = c at *
                    have HST := Lib.hid hst
                    clear hst
                    have hwu : IntKind.u8.wrap (k : Int) = (k : Int) := by simp only [IntKind.wrap, IntKind.bits, IntKind.signed]; simp; omega
                    go_wp2
                    go_roundw
                    case rel => first | exact ⟨x + 1, by omega, by go_num, by repeat' (first | with_reducible exact Below.refl _ _ | with_reducible assumption | with_reducible refine Below.drew ?_ | with_reducible refine Below.drewN ?_ _ | with_reducible refine Below.alloc ?_ ?_ _ | with_reducible refine Below.setCell ?_ ?_ _ | with_reducible refine Below.setRow ?_ ?_ _ | with_reducible refine below_step (by assumption) ?_ ?_ | (show (_ : Nat) ≤ _; first | omega | (simp <;> omega))), (by first | omega | (simp <;> omega)), by (go_simp <;> (intros; omega)), by (go_simp <;> (intros; omega)), by (go_simp <;> (intros; omega)), by rw [← Nat.add_assoc, ← HYK.out]; (go_simp <;> (intros; omega)), by (go_simp <;> (intros; omega)), HG1.out, good_step HG3.out HGX.out⟩ | ((repeat (with_reducible apply Exists.intro)); refine And.intro ?_ ?_; rotate_left; focus ((repeat' (with_reducible apply And.intro)) <;> rfl); exact ⟨x + 1, by omega, by go_num, by repeat' (first | with_reducible exact Below.refl _ _ | with_reducible assumption | with_reducible refine Below.drew ?_ | with_reducible refine Below.drewN ?_ _ | with_reducible refine Below.alloc ?_ ?_ _ | with_reducible refine Below.setCell ?_ ?_ _ | with_reducible refine Below.setRow ?_ ?_ _ | with_reducible refine below_step (by assumption) ?_ ?_ | (show (_ : Nat) ≤ _; first | omega | (simp <;> omega))), (by first | omega | (simp <;> omega)), by (go_simp <;> (intros; omega)), by (go_simp <;> (intros; omega)), by (go_simp <;> (intros; omega)), by rw [← Nat.add_assoc, ← HYK.out]; (go_simp <;> (intros; omega)), by (go_simp <;> (intros; omega)), HG1.out, good_step HG3.out HGX.out⟩)
                    case measure => simp [intOf]; omega
                  · have hz : (bits BinOp.and IntKind.u8 (s (k * 8 + y) / 2 ^ x) 1 == 1) = false := hbit
                    have HNK := Lib.hid (HN.out hbit)
                    have HGX := Lib.hid (HGD.out.2 (fun h => by rw [hbit] at h; cases h))
                    clear hbit HN HY
                    go_wp2
                    go_roundw
                    case rel => first | exact ⟨x + 1, by omega, by go_num, by repeat' (first | with_reducible exact Below.refl _ _ | with_reducible assumption | with_reducible refine Below.drew ?_ | with_reducible refine Below.drewN ?_ _ | with_reducible refine Below.alloc ?_ ?_ _ | with_reducible refine Below.setCell ?_ ?_ _ | with_reducible refine Below.setRow ?_ ?_ _ | with_reducible refine below_step (by assumption) ?_ ?_ | (show (_ : Nat) ≤ _; first | omega | (simp <;> omega))), (by first | omega | (simp <;> omega)), by (go_simp <;> (intros; omega)), by (go_simp <;> (intros; omega)), by (go_simp <;> (intros; omega)), by rw [← Nat.add_assoc, ← HNK.out]; (go_simp <;> (intros; omega)), by (go_simp <;> (intros; omega)), HG1.out, good_step HG3.out HGX.out⟩ | ((repeat (with_reducible apply Exists.intro)); refine And.intro ?_ ?_; rotate_left; focus ((repeat' (with_reducible apply And.intro)) <;> rfl); exact ⟨x + 1, by omega, by go_num, by repeat' (first | with_reducible exact Below.refl _ _ | with_reducible assumption | with_reducible refine Below.drew ?_ | with_reducible refine Below.drewN ?_ _ | with_reducible refine Below.alloc ?_ ?_ _ | with_reducible refine Below.setCell ?_ ?_ _ | with_reducible refine Below.setRow ?_ ?_ _ | with_reducible refine below_step (by assumption) ?_ ?_ | (show (_ : Nat) ≤ _; first | omega | (simp <;> omega))), (by first | omega | (simp <;> omega)), by (go_simp <;> (intros; omega)), by (go_simp <;> (intros; omega)), by (go_simp <;> (intros; omega)), by rw [← Nat.add_assoc, ← HNK.out]; (go_simp <;> (intros; omega)), by (go_simp <;> (intros; omega)), HG1.out, good_step HG3.out HGX.out⟩)
                    case measure => simp [intOf]; omega
                · have hxe : x = 8 := by omega
                  subst hxe
                  go_wp2
                  go_roundw
                  case rel => first | exact ⟨y + 1, by omega, by go_num, by repeat' (first | with_reducible exact Below.refl _ _ | with_reducible assumption | with_reducible refine Below.drew ?_ | with_reducible refine Below.drewN ?_ _ | with_reducible refine Below.alloc ?_ ?_ _ | with_reducible refine Below.setCell ?_ ?_ _ | with_reducible refine Below.setRow ?_ ?_ _ | with_reducible refine below_step (by assumption) ?_ ?_ | (show (_ : Nat) ≤ _; first | omega | (simp <;> omega))), (by first | omega | (simp <;> omega)), by (go_simp <;> (intros; omega)), by (go_simp <;> (intros; omega)), by (go_simp <;> (intros; omega)), by rw [Nat.succ_mul]; (go_simp <;> (intros; omega)), by (go_simp <;> (intros; omega)), HG1.out, by rw [Nat.succ_mul]; exact HG3.out⟩ | ((repeat (with_reducible apply Exists.intro)); refine And.intro ?_ ?_; rotate_left; focus ((repeat' (with_reducible apply And.intro)) <;> rfl); exact ⟨y + 1, by omega, by go_num, by repeat' (first | with_reducible exact Below.refl _ _ | with_reducible assumption | with_reducible refine Below.drew ?_ | with_reducible refine Below.drewN ?_ _ | with_reducible refine Below.alloc ?_ ?_ _ | with_reducible refine Below.setCell ?_ ?_ _ | with_reducible refine Below.setRow ?_ ?_ _ | with_reducible refine below_step (by assumption) ?_ ?_ | (show (_ : Nat) ≤ _; first | omega | (simp <;> omega))), (by first | omega | (simp <;> omega)), by (go_simp <;> (intros; omega)), by (go_simp <;> (intros; omega)), by (go_simp <;> (intros; omega)), by rw [Nat.succ_mul]; (go_simp <;> (intros; omega)), by (go_simp <;> (intros; omega)), HG1.out, by rw [Nat.succ_mul]; exact HG3.out⟩)
                  case measure => simp [intOf]; omega
            · have hzz : (s (k * 8 + y) == 0) = false := by simpa using hz0
              have hzzn : (s (k * 8 + y) != 0) = true := by simp [bne, hzz]
              by_cases hyb : b ≤ (y : Int)
              · have HV := Lib.hid (stenV_no (s := s) (a := A) (b := b) (fun h => by
                  obtain ⟨x, hx8, hbit⟩ : ∃ x, x < 8 ∧ bitR (s (k * 8 + y)) x = true := Classical.byContradiction fun hno => hz0 (H0.out.2 fun x hx _ => by
                    cases hq : bitR (s (k * 8 + y)) x
                    · rfl
                    · exact absurd ⟨x, hx, hq⟩ hno)
                  have := (goodS_at hx8).1 (h.2.2 k hk3 (y * 8 + x) (by omega)) hbit
                  omega))
                have hdyb : decide (b ≤ (y : Int)) = true := decide_eq_true hyb
                clear hwide hz0
                go_wp2
                rw [HV.out]
                refine bodyPost_ret (v := .tuple #[.agg (kc pk 66 fun _ => 0), .int .i64 2]) (res_ct rfl rfl (by (go_simp <;> (intros; omega))) rfl) rfl ⟨rfl, by repeat' (first | with_reducible exact Below.refl _ _ | with_reducible assumption | with_reducible refine Below.drew ?_ | with_reducible refine Below.drewN ?_ _ | with_reducible refine Below.alloc ?_ ?_ _ | with_reducible refine Below.setCell ?_ ?_ _ | with_reducible refine Below.setRow ?_ ?_ _ | with_reducible refine below_step (by assumption) ?_ ?_ | (show (_ : Nat) ≤ _; first | omega | (simp <;> omega)))⟩
              · have hdyb : decide (b ≤ (y : Int)) = false := decide_eq_false hyb
                have HROW := Lib.hid (show ∀ x, x < 8 → bitR (s (k * 8 + y)) x = true → (x : Int) < A ∧ (y : Int) < b from fun x hx h => by
                  refine ⟨?_, by omega⟩
                  by_cases hxa : A ≤ x
                  · have := HWX.out x hx hxa
                    rw [this] at h; cases h
                  · omega)
                clear hwide hz0
                go_wp2
                go_loopw [49] (fun i wr => ∃ x : Nat, x ≤ 8 ∧ i = .int .i64 x ∧ StR s A b w w1.heap.size k (y * 8 + x) wr) (fun i wr => 8 - (intOf i).toNat)
                case atStart => exact ⟨0, by omega, rfl, by repeat' (first | with_reducible exact Below.refl _ _ | with_reducible assumption | with_reducible refine Below.drew ?_ | with_reducible refine Below.drewN ?_ _ | with_reducible refine Below.alloc ?_ ?_ _ | with_reducible refine Below.setCell ?_ ?_ _ | with_reducible refine Below.setRow ?_ ?_ _ | with_reducible refine below_step (by assumption) ?_ ?_ | (show (_ : Nat) ≤ _; first | omega | (simp <;> omega))), (by first | omega | (simp <;> omega)), by (go_simp <;> (intros; omega)), by (go_simp <;> (intros; omega)), by (go_simp <;> (intros; omega)), by (go_simp <;> (intros; omega)), by (go_simp <;> (intros; omega)), HG1.out, HG2.out⟩
                case round =>
                  obtain ⟨x, hx, rfl, hbl, hsz, hrs, hrz, hfz, hrp, hfp, hg1, hg2⟩ := hrel
                  have HG3 := Lib.hid hg2
                  have hszw := hbl.size
                  clear hg1 hg2
                  by_cases hx8 : x < 8
                  · have HN := Lib.hid (stP_no (s := s) (a := A) (b := b) (i := k) (m := y * 8 + x))
                    have HY := Lib.hid (stP_yes (s := s) (a := A) (b := b) (i := k) (m := y * 8 + x))
                    rw [bitS_at hx8] at HN HY
                    have HGD := Lib.hid (goodS_at (s := s) (a := A) (b := b) (i := k) (y := y) (x := x) hx8)
                    rcases Bool.eq_false_or_eq_true (bitR (s (k * 8 + y)) x) with hbit | hbit
                    · have hz : (bits BinOp.and IntKind.u8 (s (k * 8 + y) / 2 ^ x) 1 == 1) = true := hbit
                      have HYK := Lib.hid (HY.out hbit (by omega))
                      have HGX := Lib.hid (HGD.out.2 (fun _ => HROW.out x hx8 hbit))
                      rw [← Nat.add_assoc] at HYK
                      clear hbit HN HY
                      generalize hst : stP s A b k (y * 8 + x) = c at *
                      have HST := Lib.hid hst
                      clear hst
                      have hwu : IntKind.u8.wrap (k : Int) = (k : Int) := by simp only [IntKind.wrap, IntKind.bits, IntKind.signed]; simp; omega
                      go_wp2
                      go_roundw
                      case rel => first | exact ⟨x + 1, by omega, by go_num, by repeat' (first | with_reducible exact Below.refl _ _ | with_reducible assumption | with_reducible refine Below.drew ?_ | with_reducible refine Below.drewN ?_ _ | with_reducible refine Below.alloc ?_ ?_ _ | with_reducible refine Below.setCell ?_ ?_ _ | with_reducible refine Below.setRow ?_ ?_ _ | with_reducible refine below_step (by assumption) ?_ ?_ | (show (_ : Nat) ≤ _; first | omega | (simp <;> omega))), (by first | omega | (simp <;> omega)), by (go_simp <;> (intros; omega)), by (go_simp <;> (intros; omega)), by (go_simp <;> (intros; omega)), by rw [← Nat.add_assoc, ← HYK.out]; (go_simp <;> (intros; omega)), by (go_simp <;> (intros; omega)), HG1.out, good_step HG3.out HGX.out⟩ | ((repeat (with_reducible apply Exists.intro)); refine And.intro ?_ ?_; rotate_left; focus ((repeat' (with_reducible apply And.intro)) <;> rfl); exact ⟨x + 1, by omega, by go_num, by repeat' (first | with_reducible exact Below.refl _ _ | with_reducible assumption | with_reducible refine Below.drew ?_ | with_reducible refine Below.drewN ?_ _ | with_reducible refine Below.alloc ?_ ?_ _ | with_reducible refine Below.setCell ?_ ?_ _ | with_reducible refine Below.setRow ?_ ?_ _ | with_reducible refine below_step (by assumption) ?_ ?_ | (show (_ : Nat) ≤ _; first | omega | (simp <;> omega))), (by first | omega | (simp <;> omega)), by (go_simp <;> (intros; omega)), by (go_simp <;> (intros; omega)), by (go_simp <;> (intros; omega)), by rw [← Nat.add_assoc, ← HYK.out]; (go_simp <;> (intros; omega)), by (go_simp <;> (intros; omega)), HG1.out, good_step HG3.out HGX.out⟩)
                      case measure => simp [intOf]; omega
                    · have hz : (bits BinOp.and IntKind.u8 (s (k * 8 + y) / 2 ^ x) 1 == 1) = false := hbit
                      have HNK := Lib.hid (HN.out hbit)
                      have HGX := Lib.hid (HGD.out.2 (fun h => by rw [hbit] at h; cases h))
                      clear hbit HN HY
                      go_wp2
                      go_roundw
                      case rel => first | exact ⟨x + 1, by omega, by go_num, by repeat' (first | with_reducible exact Below.refl _ _ | with_reducible assumption | with_reducible refine Below.drew ?_ | with_reducible refine Below.drewN ?_ _ | with_reducible refine Below.alloc ?_ ?_ _ | with_reducible refine Below.setCell ?_ ?_ _ | with_reducible refine Below.setRow ?_ ?_ _ | with_reducible refine below_step (by assumption) ?_ ?_ | (show (_ : Nat) ≤ _; first | omega | (simp <;> omega))), (by first | omega | (simp <;> omega)), by (go_simp <;> (intros; omega)), by (go_simp <;> (intros; omega)), by (go_simp <;> (intros; omega)), by rw [← Nat.add_assoc, ← HNK.out]; (go_simp <;> (intros; omega)), by (go_simp <;> (intros; omega)), HG1.out, good_step HG3.out HGX.out⟩ | ((repeat (with_reducible apply Exists.intro)); refine And.intro ?_ ?_; rotate_left; focus ((repeat' (with_reducible apply And.intro)) <;> rfl); exact ⟨x + 1, by omega, by go_num, by repeat' (first | with_reducible exact Below.refl _ _ | with_reducible assumption | with_reducible refine Below.drew ?_ | with_reducible refine Below.drewN ?_ _ | with_reducible refine Below.alloc ?_ ?_ _ | with_reducible refine Below.setCell ?_ ?_ _ | with_reducible refine Below.setRow ?_ ?_ _ | with_reducible refine below_step (by assumption) ?_ ?_ | (show (_ : Nat) ≤ _; first | omega | (simp <;> omega))), (by first | omega | (simp <;> omega)), by (go_simp <;> (intros; omega)), by (go_simp <;> (intros; omega)), by (go_simp <;> (intros; omega)), by rw [← Nat.add_assoc, ← HNK.out]; (go_simp <;> (intros; omega)), by (go_simp <;> (intros; omega)), HG1.out, good_step HG3.out HGX.out⟩)
                      case measure => simp [intOf]; omega
                  · have hxe : x = 8 := by omega
                    subst hxe
                    go_wp2
                    go_roundw
                    case rel => first | exact ⟨y + 1, by omega, by go_num, by repeat' (first | with_reducible exact Below.refl _ _ | with_reducible assumption | with_reducible refine Below.drew ?_ | with_reducible refine Below.drewN ?_ _ | with_reducible refine Below.alloc ?_ ?_ _ | with_reducible refine Below.setCell ?_ ?_ _ | with_reducible refine Below.setRow ?_ ?_ _ | with_reducible refine below_step (by assumption) ?_ ?_ | (show (_ : Nat) ≤ _; first | omega | (simp <;> omega))), (by first | omega | (simp <;> omega)), by (go_simp <;> (intros; omega)), by (go_simp <;> (intros; omega)), by (go_simp <;> (intros; omega)), by rw [Nat.succ_mul]; (go_simp <;> (intros; omega)), by (go_simp <;> (intros; omega)), HG1.out, by rw [Nat.succ_mul]; exact HG3.out⟩ | ((repeat (with_reducible apply Exists.intro)); refine And.intro ?_ ?_; rotate_left; focus ((repeat' (with_reducible apply And.intro)) <;> rfl); exact ⟨y + 1, by omega, by go_num, by repeat' (first | with_reducible exact Below.refl _ _ | with_reducible assumption | with_reducible refine Below.drew ?_ | with_reducible refine Below.drewN ?_ _ | with_reducible refine Below.alloc ?_ ?_ _ | with_reducible refine Below.setCell ?_ ?_ _ | with_reducible refine Below.setRow ?_ ?_ _ | with_reducible refine below_step (by assumption) ?_ ?_ | (show (_ : Nat) ≤ _; first | omega | (simp <;> omega))), (by first | omega | (simp <;> omega)), by (go_simp <;> (intros; omega)), by (go_simp <;> (intros; omega)), by (go_simp <;> (intros; omega)), by rw [Nat.succ_mul]; (go_simp <;> (intros; omega)), by (go_simp <;> (intros; omega)), HG1.out, by rw [Nat.succ_mul]; exact HG3.out⟩)
                    case measure => simp [intOf]; omega
          · have hww : (s (k * 8 + y) / 2 ^ A == 0) = false := by simpa using hwide
            have hwwn : (s (k * 8 + y) / 2 ^ A != 0) = true := by simp [bne, hww]
            have HV := Lib.hid (stenV_no (s := s) (a := A) (b := b) (fun h => by
              obtain ⟨x, hx8, hxa, hbit⟩ : ∃ x, x < 8 ∧ A ≤ x ∧ bitR (s (k * 8 + y)) x = true := Classical.byContradiction fun hno => hwide (HW.out.2 fun x hx hxa => by
                cases hq : bitR (s (k * 8 + y)) x
                · rfl
                · exact absurd ⟨x, hx, hxa, hq⟩ hno)
              have := (goodS_at hx8).1 (h.2.2 k hk3 (y * 8 + x) (by omega)) hbit
              omega))
            clear hwide
            go_wp2
            rw [HV.out]
            refine bodyPost_ret (v := .tuple #[.agg (kc pk 66 fun _ => 0), .int .i64 2]) (res_ct rfl rfl (by (go_simp <;> (intros; omega))) rfl) rfl ⟨rfl, by repeat' (first | with_reducible exact Below.refl _ _ | with_reducible assumption | with_reducible refine Below.drew ?_ | with_reducible refine Below.drewN ?_ _ | with_reducible refine Below.alloc ?_ ?_ _ | with_reducible refine Below.setCell ?_ ?_ _ | with_reducible refine Below.setRow ?_ ?_ _ | with_reducible refine below_step (by assumption) ?_ ?_ | (show (_ : Nat) ≤ _; first | omega | (simp <;> omega)))⟩
        · have hye : y = 8 := by omega
          subst hye
          go_wp2
          go_roundw
          case rel => first | exact ⟨k + 1, by omega, by go_num, by repeat' (first | with_reducible exact Below.refl _ _ | with_reducible assumption | with_reducible refine Below.drew ?_ | with_reducible refine Below.drewN ?_ _ | with_reducible refine Below.alloc ?_ ?_ _ | with_reducible refine Below.setCell ?_ ?_ _ | with_reducible refine Below.setRow ?_ ?_ _ | with_reducible refine below_step (by assumption) ?_ ?_ | (show (_ : Nat) ≤ _; first | omega | (simp <;> omega))), (by first | omega | (simp <;> omega)), by (go_simp <;> (intros; omega)), by (go_simp <;> (intros; omega)), by (go_simp <;> (intros; omega)), by rw [← stP_next]; (go_simp <;> (intros; omega)), by (go_simp <;> (intros; omega)), good_next HG1.out HG2.out, fun m h => absurd h (by omega)⟩ | ((repeat (with_reducible apply Exists.intro)); refine And.intro ?_ ?_; rotate_left; focus ((repeat' (with_reducible apply And.intro)) <;> rfl); exact ⟨k + 1, by omega, by go_num, by repeat' (first | with_reducible exact Below.refl _ _ | with_reducible assumption | with_reducible refine Below.drew ?_ | with_reducible refine Below.drewN ?_ _ | with_reducible refine Below.alloc ?_ ?_ _ | with_reducible refine Below.setCell ?_ ?_ _ | with_reducible refine Below.setRow ?_ ?_ _ | with_reducible refine below_step (by assumption) ?_ ?_ | (show (_ : Nat) ≤ _; first | omega | (simp <;> omega))), (by first | omega | (simp <;> omega)), by (go_simp <;> (intros; omega)), by (go_simp <;> (intros; omega)), by (go_simp <;> (intros; omega)), by rw [← stP_next]; (go_simp <;> (intros; omega)), by (go_simp <;> (intros; omega)), good_next HG1.out HG2.out, fun m h => absurd h (by omega)⟩)
          case measure => simp [intOf]; omega
    · have hke : k = 3 := by omega
      subst hke
      have HV := Lib.hid (stenV_yes ⟨HA.out, HBB.out, HG1.out⟩)
      go_wp2
      rw [HV.out]
      refine bodyPost_ret (v := .tuple #[.agg (kc pk 66 (stP s A b 3 0)), .int .i64 0]) (res_ct rfl rfl (by (go_simp <;> (intros; omega))) rfl) rfl ⟨rfl, by repeat' (first | with_reducible exact Below.refl _ _ | with_reducible assumption | with_reducible refine Below.drew ?_ | with_reducible refine Below.drewN ?_ _ | with_reducible refine Below.alloc ?_ ?_ _ | with_reducible refine Below.setCell ?_ ?_ _ | with_reducible refine Below.setRow ?_ ?_ _ | with_reducible refine below_step (by assumption) ?_ ?_ | (show (_ : Nat) ≤ _; first | omega | (simp <;> omega)))⟩
end Go.Proofs.Ytigiooollonmjaa
