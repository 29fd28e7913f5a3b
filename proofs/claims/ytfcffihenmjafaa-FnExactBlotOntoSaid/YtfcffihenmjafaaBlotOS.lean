/- Ink goes over once: the reference. Written by gen_blot.py. -/
import Derived.Test.YtfcffihenmjafaaBlotV
import Derived.Test.YtfcffihenmjafaaBlotS
namespace Go.Proofs.Ytfcffihenmjafaa
open Go.RowKit
set_option linter.unusedVariables false
set_option linter.unusedSimpArgs false
set_option maxRecDepth 100000
set_option maxHeartbeats 8000000 in
theorem sBlotOnto_any (c d : Nat → Int) (hc : FitSheet c) (hd : FitSheet d) (p : Int) (w : World) : Calls Try.prog 26 #[.agg (kc sk 266 c), .agg (kc sk 266 d), .int .i64 p] w fun e w' => e = .returned (blotV c d p 1) ∧ Below w.heap.size w w' := by
  have hK := fun w1 hr hp hr2 hq => l03Both_any w.heap.size (w.heap.size + 1) c d hc hd p true w1 hr hp hr2 hq
  by_cases hz : codeV c d p 1 = 0
  case neg =>
    rw [blotV_no hz]
    unfold codeV at hz ⊢
    rw [show inB 1 0 30 = true from by decide] at hz ⊢
    generalize codeB (okS c) (okS d) (inB p 1 8) true (sidesB c d) = z at hK hz ⊢
    have hz2 : (z != 0) = true := by simpa using hz
    have HK := Lib.hid hK
    clear hK hz
    go_enter Try.func26, Try.ntmps26
    go_wp2_with ((go_at_call 66; refine (HK.out _ (by (go_simp <;> (intros; omega))) (by first | omega | (simp <;> omega)) (by (go_simp <;> (intros; omega))) (by first | omega | (simp <;> omega))).mono ?_; rintro e w1 ⟨rfl, hb1⟩; have r1 := keep_rowA hb1; have f1 := keep_frA hb1; have s1 := hb1.size; (try simp only [World.size_alloc, World.size_setCell, setRow_size, World.size_drew, size_drewNm] at r1 f1 s1)))
    exact bodyPost_ret (v := .tuple #[.agg (kc sk 266 fun _ => 0), .agg (kc sk 266 fun _ => 0), .int .i64 0, .int .i64 z]) (res_cctt rfl rfl (by (go_simp <;> (intros; omega))) rfl (by (go_simp <;> (intros; omega))) rfl rfl) rfl ⟨rfl, by repeat' (first | with_reducible exact Below.refl _ _ | with_reducible assumption | with_reducible refine Below.drew ?_ | with_reducible refine Below.drewN ?_ _ | with_reducible refine Below.alloc ?_ ?_ _ | with_reducible refine Below.setCell ?_ ?_ _ | with_reducible refine Below.setRow ?_ ?_ _ | with_reducible refine below_step (by assumption) ?_ ?_ | (show (_ : Nat) ≤ _; first | omega | (simp <;> omega)))⟩
  have hcv : codeV c d p 1 = 0 := hz
  obtain ⟨oc, od, ⟨p1, p2⟩, ⟨r1, r2⟩, s0, s1⟩ := codeV_zero hcv
  obtain ⟨W, H, hW, hH, W0, H0, W8, H8⟩ := okS_sides oc
  have hgood := good_start hc hd oc od hW hH
  have hn64 : H * W ≤ 64 := by have := Nat.mul_le_mul H8 W8; omega
  unfold codeV at hz
  rw [show inB 1 0 30 = true from by decide] at hz
  rw [hz] at hK
  have HK := Lib.hid hK
  clear hK
  have HV := Lib.hid (blotV_yes (k := 1) hcv hW hH rfl)
  have HGK := Lib.hid hgood
  clear hcv hz oc od hW hH hgood s0 s1
  have HN := Lib.hid (show blR p W (H * W) ⟨c, d, 0⟩ 1 = blN p W ⟨c, d, 0⟩ (H * W) from rfl)
  generalize hbn : blN p W ⟨c, d, 0⟩ (H * W) = u at HN
  go_enter Try.func26, Try.ntmps26
  go_wp2_with (first | (go_at_call 66; refine (HK.out _ (by (go_simp <;> (intros; omega))) (by first | omega | (simp <;> omega)) (by (go_simp <;> (intros; omega))) (by first | omega | (simp <;> omega))).mono ?_; rintro e w1 ⟨rfl, hb1⟩; have r1 := keep_rowA hb1; have f1 := keep_frA hb1; have s1 := hb1.size; (try simp only [World.size_alloc, World.size_setCell, setRow_size, World.size_drew, size_drewNm] at r1 f1 s1)) | (go_at_call 67; refine (l03Blot_any w.heap.size (w.heap.size + 1) w.heap.size (by omega) (Nat.le_refl _) (by omega) c d W H W0 H0 W8 H8 HGK.out p ⟨p1, p2⟩ _ (by (go_simp <;> (intros; omega))) (by first | omega | (simp <;> omega)) (by (go_simp <;> (intros; omega))) (by first | omega | (simp <;> omega)) (by (go_simp <;> (intros; omega))) (by (go_simp <;> (intros; omega)))).mono ?_; rintro e w2 ⟨rfl, hp2, hq2, hf2, hg2, hs2, ho2, hb2⟩; have e1 := ho2 (w.heap.size + 1 + 1) (by omega) (by omega) (by first | omega | (simp <;> omega)); have e2 := ho2 (w.heap.size + 1 + 1 + 1) (by omega) (by omega) (by first | omega | (simp <;> omega)); clear ho2; rw [hbn] at hp2 hq2 ⊢; (try simp only [World.size_alloc, World.size_setCell, setRow_size, World.size_drew, size_drewNm] at hs2)))
  go_region
  all_goals
    go_wp2
    rw [HV.out, HN.out]
    exact bodyPost_ret (v := .tuple #[.agg (kc sk 266 u.c), .agg (kc sk 266 u.d), .int .i64 u.m, .int .i64 0]) (res_cctt rfl rfl (by (go_simp <;> (intros; omega))) rfl (by (go_simp <;> (intros; omega))) rfl rfl) rfl ⟨rfl, by repeat' (first | with_reducible exact Below.refl _ _ | with_reducible assumption | with_reducible refine Below.drew ?_ | with_reducible refine Below.drewN ?_ _ | with_reducible refine Below.alloc ?_ ?_ _ | with_reducible refine Below.setCell ?_ ?_ _ | with_reducible refine Below.setRow ?_ ?_ _ | with_reducible refine below_step (by assumption) ?_ ?_ | (show (_ : Nat) ≤ _; first | omega | (simp <;> omega)))⟩
end Go.Proofs.Ytfcffihenmjafaa
