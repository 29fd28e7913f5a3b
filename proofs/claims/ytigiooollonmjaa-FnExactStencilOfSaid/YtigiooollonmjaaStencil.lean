/- The stencil of the cells of a picture that show an ink, in both. Written by gen_stencil.py. -/
import Derived.Test.YtigiooollonmjaaPicS
import Derived.Test.YtigiooollonmjaaPicI
namespace Go.Proofs.Ytigiooollonmjaa
open Go.RowKit
set_option linter.unusedVariables false
set_option linter.unusedSimpArgs false
set_option maxRecDepth 100000
/-- A number with one more bit. -/
def orV (a : Int) (x : Nat) : Int := bits BinOp.or IntKind.u8 a (2 ^ x % 256)
/-- The stencil's numbers when n cells have been looked at. -/
def sten (c : Nat → Int) (W : Nat) (m : Int) : Nat → Nat → Int
  | 0 => fun _ => 0
  | n + 1 => if pF c W n = m then upI (sten c W m n) (n / W) (orV (sten c W m n (n / W)) (n % W)) else sten c W m n
theorem sten_yes {c : Nat → Int} {W : Nat} {m : Int} {n : Nat} (h : pF c W n = m) : sten c W m (n + 1) = upI (sten c W m n) (n / W) (orV (sten c W m n (n / W)) (n % W)) := if_pos h
theorem sten_no {c : Nat → Int} {W : Nat} {m : Int} {n : Nat} (h : pF c W n ≠ m) : sten c W m (n + 1) = sten c W m n := if_neg h
noncomputable def stenR (c : Nat → Int) (k : Int) : Nat → Int := if okP c = true ∧ inB k 0 2 = true then sten c (c 0).toNat (k + 1) ((c 1).toNat * (c 0).toNat) else fun _ => 0
theorem stenR_yes {c : Nat → Int} {W H : Nat} (ho : okP c = true) (hW : c 0 = W) (hH : c 1 = H) {k : Int} (hk : inB k 0 2 = true) : stenR c k = sten c W (k + 1) (H * W) := by
  unfold stenR; rw [if_pos ⟨ho, hk⟩, hW, hH, Int.toNat_natCast, Int.toNat_natCast]
theorem stenR_no {c : Nat → Int} {k : Int} (h : ¬ (okP c = true ∧ inB k 0 2 = true)) : stenR c k = fun _ => 0 := if_neg h
/-- What is known at the head of a round over the cells: w0 is the call's world, w1 the one behind the making of the slice, b the box. -/
def StenR (c : Nat → Int) (W n : Nat) (m : Int) (w0 w1 : World) (g b : Nat) (i : Value) (wr : World) : Prop := ∃ k : Nat, k ≤ n ∧ i = .int .i64 k ∧ Below w0.heap.size w0 wr ∧ w1.heap.size ≤ wr.heap.size ∧ rowOf wr g = rowOf w1 g ∧ rowOf wr w0.heap.size = kc pk 66 c ∧ rowOf wr (w0.heap.size + 1) = kc (fun _ => .u8) 8 (fun _ => 0) ∧ frOf wr (w0.heap.size + 1) = (0, 0) ∧ rowOf wr b = kc (fun _ => .u8) 8 (sten c W m k) ∧ frOf wr b = (0, 0)
set_option maxHeartbeats 4000000 in
theorem sStencil_any (c : Nat → Int) (hf : FitPicture c) (k : Int) (w : World) : Calls Try.prog 35 #[.agg (kc pk 66 c), .int .i64 k] w fun e w' => e = .returned (.tuple #[.agg (kc (fun _ => .u8) 8 (stenR c k)), .int .i64 (askB (okP c) (inB k 0 2) true)]) ∧ Below w.heap.size w w' := by
  have hO := fun p w hr hp => l07Ok_any p c hf w hr hp
  rcases Bool.eq_false_or_eq_true (okP c) with ho | ho
  case inr =>
    rw [stenR_no (by simp [ho])]
    simp only [ho] at hO ⊢
    have HO := Lib.hid hO
    clear hO ho
    cases hk : inB k 0 2
    all_goals
      go_enter Try.func35, Try.ntmps35
      go_wp2_with (first | (go_at_call 84; refine (HO.out _ _ (by (go_simp <;> (intros; omega))) (by first | omega | (simp <;> omega))).mono ?_; rintro e w1 ⟨rfl, hb1⟩; have r1 := keep_rowA hb1; have f1 := keep_frA hb1; have s1 := hb1.size; (try simp only [World.size_alloc, World.size_setCell, setRow_size, World.size_drew] at r1 f1 s1)) | (go_at_call 85; refine (l01Ink_any _ _).mono ?_; rintro e w1 ⟨rfl, rfl⟩))
      refine bodyPost_ret (v := .tuple #[.agg (kc (fun _ => .u8) 8 fun _ => 0), .int .i64 1]) (res_ct rfl rfl (by (go_simp <;> (intros; omega))) rfl) rfl ⟨rfl, by repeat' (first | with_reducible exact Below.refl _ _ | with_reducible assumption | with_reducible refine Below.drew ?_ | with_reducible refine Below.drewN ?_ _ | with_reducible refine Below.alloc ?_ ?_ _ | with_reducible refine Below.setCell ?_ ?_ _ | with_reducible refine Below.setRow ?_ ?_ _ | with_reducible refine below_step (by assumption) ?_ ?_ | (show (_ : Nat) ≤ _; first | omega | (simp <;> omega)))⟩
  cases hk : inB k 0 2
  case false =>
    rw [stenR_no (by simp [hk])]
    simp only [ho] at hO ⊢
    have HO := Lib.hid hO
    clear hO ho
    go_enter Try.func35, Try.ntmps35
    go_wp2_with (first | (go_at_call 84; refine (HO.out _ _ (by (go_simp <;> (intros; omega))) (by first | omega | (simp <;> omega))).mono ?_; rintro e w1 ⟨rfl, hb1⟩; have r1 := keep_rowA hb1; have f1 := keep_frA hb1; have s1 := hb1.size; (try simp only [World.size_alloc, World.size_setCell, setRow_size, World.size_drew] at r1 f1 s1)) | (go_at_call 85; refine (l01Ink_any _ _).mono ?_; rintro e w1 ⟨rfl, rfl⟩))
    refine bodyPost_ret (v := .tuple #[.agg (kc (fun _ => .u8) 8 fun _ => 0), .int .i64 2]) (res_ct rfl rfl (by (go_simp <;> (intros; omega))) rfl) rfl ⟨rfl, by repeat' (first | with_reducible exact Below.refl _ _ | with_reducible assumption | with_reducible refine Below.drew ?_ | with_reducible refine Below.drewN ?_ _ | with_reducible refine Below.alloc ?_ ?_ _ | with_reducible refine Below.setCell ?_ ?_ _ | with_reducible refine Below.setRow ?_ ?_ _ | with_reducible refine below_step (by assumption) ?_ ?_ | (show (_ : Nat) ≤ _; first | omega | (simp <;> omega)))⟩
  obtain ⟨W, H, hW, hH, W0, H0, W8, H8⟩ := okP_sides ho
  rw [stenR_yes ho hW hH hk]
  have hn0 : 0 < H * W := Nat.mul_pos H0 W0
  have hnb : H * W ≤ 8 * W := Nat.mul_le_mul_right _ H8
  have hnb2 : H * W ≤ 64 := by omega
  have HB := Lib.hid (fit_blank hf)
  generalize hn : H * W = n at *
  simp only [ho] at hO ⊢
  have HO := Lib.hid hO
  clear hO ho
  have ⟨k0, k2⟩ := inB_true.1 hk
  have hwu : IntKind.u8.wrap (k + 1) = k + 1 := by simp only [IntKind.wrap, IntKind.bits, IntKind.signed]; simp; omega
  go_enter Try.func35, Try.ntmps35
  go_wp2_with (first | (go_at_call 84; refine (HO.out _ _ (by (go_simp <;> (intros; omega))) (by first | omega | (simp <;> omega))).mono ?_; rintro e w1 ⟨rfl, hb1⟩; have r1 := keep_rowA hb1; have f1 := keep_frA hb1; have s1 := hb1.size; (try simp only [World.size_alloc, World.size_setCell, setRow_size, World.size_drew] at r1 f1 s1)) | (go_at_call 85; refine (l01Ink_any _ _).mono ?_; rintro e w1 ⟨rfl, rfl⟩) | (go_at_call 91; refine (l07Spots_any _ c hf W H hW hH W8 H8 _ (by (go_simp <;> (intros; omega))) (by first | omega | (simp <;> omega))).mono ?_; rintro e w3 ⟨v, rfl, hown, hb3⟩; have r_hb3 := keep_rowA hb3; have f_hb3 := keep_frA hb3; have s_hb3 := hb3.size; (try simp only [World.size_alloc, World.size_setCell, setRow_size, World.size_drew] at r_hb3 f_hb3 s_hb3); rw [hn] at hown; obtain ⟨g, cap, rfl, hg, hgs, hcells⟩ := owns_some hown hn0; have HC := Lib.hid hcells; clear hown hcells))
  have hg2 : w.heap.size + 3 ≤ g := by first | omega | (simp at hg; omega)
  clear HO
  go_loopw [8] (fun i wr => StenR c W n (k + 1) w w3 g (w.heap.size + 1 + 1) i wr) (fun i wr => n - (intOf i).toNat)
  case atStart => exact ⟨0, by omega, rfl, by repeat' (first | with_reducible exact Below.refl _ _ | with_reducible assumption | with_reducible refine Below.drew ?_ | with_reducible refine Below.drewN ?_ _ | with_reducible refine Below.alloc ?_ ?_ _ | with_reducible refine Below.setCell ?_ ?_ _ | with_reducible refine Below.setRow ?_ ?_ _ | with_reducible refine below_step (by assumption) ?_ ?_ | (show (_ : Nat) ≤ _; first | omega | (simp <;> omega))), (by first | omega | (simp <;> omega)), by (go_simp <;> (intros; omega)), by (go_simp <;> (intros; omega)), by (go_simp <;> (intros; omega)), by (go_simp <;> (intros; omega)), by go_simp <;> rfl, by (go_simp <;> (intros; omega))⟩
  case round =>
    obtain ⟨j, hj, rfl, hb, hsz, hgr0, hrp, hr4, hf4, hr6, hf6⟩ := hrel
    have hsz0 := hb.size
    by_cases hlt : j < n
    · obtain ⟨c1, c2⟩ := spots_drop W n j hlt
      have r1 := hgr0 ▸ HC.out _ _ c1
      have r2 := hgr0 ▸ HC.out _ _ c2
      obtain ⟨hx8, hy8, -, -⟩ := cell_at (k := j) W0 W8 H8 (by omega)
      have HG := Lib.hid hgr0
      have hcell := hf.cell (2 + j / W * 8 + j % W) (by omega) (by omega)
      clear hgr0 c1 c2
      by_cases hv : c (2 + j / W * 8 + j % W) = k + 1
      · have HN := Lib.hid (sten_yes (n := j) hv)
        generalize j % W = x at *
        generalize j / W = y at *
        generalize sten c W (k + 1) j = d at *
        have hd : (c (2 + y * 8 + x) == k + 1) = true := by simpa using hv
        clear hv
        go_wp2
        go_region
        go_wp2
        go_region
        go_wp2
        go_roundw
        case rel => first | exact ⟨j + 1, by omega, by go_num, by repeat' (first | with_reducible exact Below.refl _ _ | with_reducible assumption | with_reducible refine Below.drew ?_ | with_reducible refine Below.drewN ?_ _ | with_reducible refine Below.alloc ?_ ?_ _ | with_reducible refine Below.setCell ?_ ?_ _ | with_reducible refine Below.setRow ?_ ?_ _ | with_reducible refine below_step (by assumption) ?_ ?_ | (show (_ : Nat) ≤ _; first | omega | (simp <;> omega))), (by first | omega | (simp <;> omega)), by go_simp <;> first | exact HG.out | (intros; omega), by (go_simp <;> (intros; omega)), by (go_simp <;> (intros; omega)), by (go_simp <;> (intros; omega)), by rw [HN.out]; go_simp <;> (intros; first | rfl | omega), by (go_simp <;> (intros; omega))⟩ | ((repeat (with_reducible apply Exists.intro)); refine And.intro ?_ ?_; rotate_left; focus ((repeat' (with_reducible apply And.intro)) <;> rfl); exact ⟨j + 1, by omega, by go_num, by repeat' (first | with_reducible exact Below.refl _ _ | with_reducible assumption | with_reducible refine Below.drew ?_ | with_reducible refine Below.drewN ?_ _ | with_reducible refine Below.alloc ?_ ?_ _ | with_reducible refine Below.setCell ?_ ?_ _ | with_reducible refine Below.setRow ?_ ?_ _ | with_reducible refine below_step (by assumption) ?_ ?_ | (show (_ : Nat) ≤ _; first | omega | (simp <;> omega))), (by first | omega | (simp <;> omega)), by go_simp <;> first | exact HG.out | (intros; omega), by (go_simp <;> (intros; omega)), by (go_simp <;> (intros; omega)), by (go_simp <;> (intros; omega)), by rw [HN.out]; go_simp <;> (intros; first | rfl | omega), by (go_simp <;> (intros; omega))⟩)
        case measure => simp [intOf]; omega
      · have HN := Lib.hid (sten_no (n := j) hv)
        generalize j % W = x at *
        generalize j / W = y at *
        generalize sten c W (k + 1) j = d at *
        have hd : (c (2 + y * 8 + x) == k + 1) = false := by simpa using hv
        clear hv
        go_wp2
        go_region
        go_wp2
        go_roundw
        case rel => first | exact ⟨j + 1, by omega, by go_num, by repeat' (first | with_reducible exact Below.refl _ _ | with_reducible assumption | with_reducible refine Below.drew ?_ | with_reducible refine Below.drewN ?_ _ | with_reducible refine Below.alloc ?_ ?_ _ | with_reducible refine Below.setCell ?_ ?_ _ | with_reducible refine Below.setRow ?_ ?_ _ | with_reducible refine below_step (by assumption) ?_ ?_ | (show (_ : Nat) ≤ _; first | omega | (simp <;> omega))), (by first | omega | (simp <;> omega)), by go_simp <;> first | exact HG.out | (intros; omega), by (go_simp <;> (intros; omega)), by (go_simp <;> (intros; omega)), by (go_simp <;> (intros; omega)), by rw [HN.out]; (go_simp <;> (intros; omega)), by (go_simp <;> (intros; omega))⟩ | ((repeat (with_reducible apply Exists.intro)); refine And.intro ?_ ?_; rotate_left; focus ((repeat' (with_reducible apply And.intro)) <;> rfl); exact ⟨j + 1, by omega, by go_num, by repeat' (first | with_reducible exact Below.refl _ _ | with_reducible assumption | with_reducible refine Below.drew ?_ | with_reducible refine Below.drewN ?_ _ | with_reducible refine Below.alloc ?_ ?_ _ | with_reducible refine Below.setCell ?_ ?_ _ | with_reducible refine Below.setRow ?_ ?_ _ | with_reducible refine below_step (by assumption) ?_ ?_ | (show (_ : Nat) ≤ _; first | omega | (simp <;> omega))), (by first | omega | (simp <;> omega)), by go_simp <;> first | exact HG.out | (intros; omega), by (go_simp <;> (intros; omega)), by (go_simp <;> (intros; omega)), by (go_simp <;> (intros; omega)), by rw [HN.out]; (go_simp <;> (intros; omega)), by (go_simp <;> (intros; omega))⟩)
        case measure => simp [intOf]; omega
    · have hje : j = n := by omega
      subst hje
      go_wp2
      refine bodyPost_ret (v := .tuple #[.agg (kc (fun _ => .u8) 8 (sten c W (k + 1) j)), .int .i64 0]) (res_ct rfl rfl (by (go_simp <;> (intros; omega))) rfl) rfl ⟨rfl, by repeat' (first | with_reducible exact Below.refl _ _ | with_reducible assumption | with_reducible refine Below.drew ?_ | with_reducible refine Below.drewN ?_ _ | with_reducible refine Below.alloc ?_ ?_ _ | with_reducible refine Below.setCell ?_ ?_ _ | with_reducible refine Below.setRow ?_ ?_ _ | with_reducible refine below_step (by assumption) ?_ ?_ | (show (_ : Nat) ≤ _; first | omega | (simp <;> omega)))⟩
set_option maxHeartbeats 4000000 in
theorem iStencil_any (c : Nat → Int) (hf : FitPicture c) (k : Int) (w : World) : Calls Try.prog 36 #[.agg (kc pk 66 c), .int .i64 k] w fun e w' => e = .returned (.tuple #[.agg (kc (fun _ => .u8) 8 (stenR c k)), .int .i64 (askB (okP c) (inB k 0 2) true)]) ∧ Below w.heap.size w w' := by
  have hO := fun i p w hr hp => pcode_any p c hf i w hr hp
  rcases Bool.eq_false_or_eq_true (okP c) with ho | ho
  case inr =>
    rw [stenR_no (by simp [ho])]
    simp only [ho] at hO ⊢
    have HO := Lib.hid hO
    clear hO ho
    cases hk : inB k 0 2
    all_goals
      go_enter Try.func36, Try.ntmps36
      go_wp2_with (first | (go_at_call 88; refine (HO.out _ _ _ (by (go_simp <;> (intros; omega))) (by first | omega | (simp <;> omega))).mono ?_; rintro e w1 ⟨rfl, hb1⟩; have r1 := keep_rowA hb1; have f1 := keep_frA hb1; have s1 := hb1.size; (try simp only [World.size_alloc, World.size_setCell, setRow_size, World.size_drew] at r1 f1 s1)) | (go_at_call 89; refine (isInk_any _ _).mono ?_; rintro e w1 ⟨rfl, rfl⟩))
      refine bodyPost_ret (v := .tuple #[.agg (kc (fun _ => .u8) 8 fun _ => 0), .int .i64 1]) (res_ct rfl rfl (by (go_simp <;> (intros; omega))) rfl) rfl ⟨rfl, by repeat' (first | with_reducible exact Below.refl _ _ | with_reducible assumption | with_reducible refine Below.drew ?_ | with_reducible refine Below.drewN ?_ _ | with_reducible refine Below.alloc ?_ ?_ _ | with_reducible refine Below.setCell ?_ ?_ _ | with_reducible refine Below.setRow ?_ ?_ _ | with_reducible refine below_step (by assumption) ?_ ?_ | (show (_ : Nat) ≤ _; first | omega | (simp <;> omega)))⟩
  cases hk : inB k 0 2
  case false =>
    rw [stenR_no (by simp [hk])]
    simp only [ho] at hO ⊢
    have HO := Lib.hid hO
    clear hO ho
    go_enter Try.func36, Try.ntmps36
    go_wp2_with (first | (go_at_call 88; refine (HO.out _ _ _ (by (go_simp <;> (intros; omega))) (by first | omega | (simp <;> omega))).mono ?_; rintro e w1 ⟨rfl, hb1⟩; have r1 := keep_rowA hb1; have f1 := keep_frA hb1; have s1 := hb1.size; (try simp only [World.size_alloc, World.size_setCell, setRow_size, World.size_drew] at r1 f1 s1)) | (go_at_call 89; refine (isInk_any _ _).mono ?_; rintro e w1 ⟨rfl, rfl⟩))
    refine bodyPost_ret (v := .tuple #[.agg (kc (fun _ => .u8) 8 fun _ => 0), .int .i64 2]) (res_ct rfl rfl (by (go_simp <;> (intros; omega))) rfl) rfl ⟨rfl, by repeat' (first | with_reducible exact Below.refl _ _ | with_reducible assumption | with_reducible refine Below.drew ?_ | with_reducible refine Below.drewN ?_ _ | with_reducible refine Below.alloc ?_ ?_ _ | with_reducible refine Below.setCell ?_ ?_ _ | with_reducible refine Below.setRow ?_ ?_ _ | with_reducible refine below_step (by assumption) ?_ ?_ | (show (_ : Nat) ≤ _; first | omega | (simp <;> omega)))⟩
  obtain ⟨W, H, hW, hH, W0, H0, W8, H8⟩ := okP_sides ho
  rw [stenR_yes ho hW hH hk]
  have hn0 : 0 < H * W := Nat.mul_pos H0 W0
  have hnb : H * W ≤ 8 * W := Nat.mul_le_mul_right _ H8
  have hnb2 : H * W ≤ 64 := by omega
  have HB := Lib.hid (fit_blank hf)
  generalize hn : H * W = n at *
  simp only [ho] at hO ⊢
  have HO := Lib.hid hO
  clear hO ho
  have ⟨k0, k2⟩ := inB_true.1 hk
  have hwu : IntKind.u8.wrap (k + 1) = k + 1 := by simp only [IntKind.wrap, IntKind.bits, IntKind.signed]; simp; omega
  go_enter Try.func36, Try.ntmps36
  go_wp2_with (first | (go_at_call 88; refine (HO.out _ _ _ (by (go_simp <;> (intros; omega))) (by first | omega | (simp <;> omega))).mono ?_; rintro e w1 ⟨rfl, hb1⟩; have r1 := keep_rowA hb1; have f1 := keep_frA hb1; have s1 := hb1.size; (try simp only [World.size_alloc, World.size_setCell, setRow_size, World.size_drew] at r1 f1 s1)) | (go_at_call 89; refine (isInk_any _ _).mono ?_; rintro e w1 ⟨rfl, rfl⟩) | (go_at_call 92; refine (sheet_any _ c hf _ (by (go_simp <;> (intros; omega))) (by first | omega | (simp <;> omega))).mono ?_; rintro e w2 ⟨q, rfl, hq, hqs, hrq, hb2⟩; have r_hb2 := keep_rowA hb2; have f_hb2 := keep_frA hb2; have s_hb2 := hb2.size; (try simp only [World.size_alloc, World.size_setCell, setRow_size, World.size_drew] at r_hb2 f_hb2 s_hb2)) | (go_at_call 93; refine (cells_any _ _ HB.out W H (by exact hW) (by exact hH) W8 H8 _ hrq hqs).mono ?_; rintro e w3 ⟨v, rfl, hown, hb3⟩; have r_hb3 := keep_rowA hb3; have f_hb3 := keep_frA hb3; have s_hb3 := hb3.size; (try simp only [World.size_alloc, World.size_setCell, setRow_size, World.size_drew] at r_hb3 f_hb3 s_hb3); rw [hn] at hown; obtain ⟨g, cap, rfl, hg, hgs, hcells⟩ := owns_some hown hn0; have HC := Lib.hid hcells; clear hown hcells))
  have hg2 : w1.heap.size + 1 ≤ g := by have := hb2.size; simp at this; omega
  clear HO
  go_loopw [21] (fun i wr => StenR c W n (k + 1) w w3 g w1.heap.size i wr) (fun i wr => n - (intOf i).toNat)
  case atStart => exact ⟨0, by omega, rfl, by repeat' (first | with_reducible exact Below.refl _ _ | with_reducible assumption | with_reducible refine Below.drew ?_ | with_reducible refine Below.drewN ?_ _ | with_reducible refine Below.alloc ?_ ?_ _ | with_reducible refine Below.setCell ?_ ?_ _ | with_reducible refine Below.setRow ?_ ?_ _ | with_reducible refine below_step (by assumption) ?_ ?_ | (show (_ : Nat) ≤ _; first | omega | (simp <;> omega))), (by first | omega | (simp <;> omega)), by (go_simp <;> (intros; omega)), by (go_simp <;> (intros; omega)), by (go_simp <;> (intros; omega)), by (go_simp <;> (intros; omega)), by go_simp <;> rfl, by (go_simp <;> (intros; omega))⟩
  case round =>
    obtain ⟨j, hj, rfl, hb, hsz, hgr0, hrp, hr4, hf4, hr6, hf6⟩ := hrel
    have hsz0 := hb.size
    by_cases hlt : j < n
    · obtain ⟨c1, c2⟩ := spots_drop W n j hlt
      have r1 := hgr0 ▸ HC.out _ _ c1
      have r2 := hgr0 ▸ HC.out _ _ c2
      obtain ⟨hx8, hy8, -, -⟩ := cell_at (k := j) W0 W8 H8 (by omega)
      have HG := Lib.hid hgr0
      have hcell := hf.cell (2 + j / W * 8 + j % W) (by omega) (by omega)
      clear hgr0 c1 c2
      by_cases hv : c (2 + j / W * 8 + j % W) = k + 1
      · have HN := Lib.hid (sten_yes (n := j) hv)
        generalize j % W = x at *
        generalize j / W = y at *
        generalize sten c W (k + 1) j = d at *
        have hd : (c (2 + y * 8 + x) == k + 1) = true := by simpa using hv
        clear hv
        go_wp2_with ((go_at_call 94; refine (shown_any _ c hf x y hx8 hy8 _ (by (go_simp <;> (intros; omega))) (by first | omega | (simp <;> omega))).mono ?_; rintro e w1 ⟨rfl, hb1⟩; have r1 := keep_rowA hb1; have f1 := keep_frA hb1; have s1 := hb1.size; (try simp only [World.size_alloc, World.size_setCell, setRow_size, World.size_drew] at r1 f1 s1)))
        go_wp2
        go_region
        go_wp2
        go_roundw
        case rel => first | exact ⟨j + 1, by omega, by go_num, by repeat' (first | with_reducible exact Below.refl _ _ | with_reducible assumption | with_reducible refine Below.drew ?_ | with_reducible refine Below.drewN ?_ _ | with_reducible refine Below.alloc ?_ ?_ _ | with_reducible refine Below.setCell ?_ ?_ _ | with_reducible refine Below.setRow ?_ ?_ _ | with_reducible refine below_step (by assumption) ?_ ?_ | (show (_ : Nat) ≤ _; first | omega | (simp <;> omega))), (by first | omega | (simp <;> omega)), by go_simp <;> first | exact HG.out | (intros; omega), by (go_simp <;> (intros; omega)), by (go_simp <;> (intros; omega)), by (go_simp <;> (intros; omega)), by rw [HN.out]; go_simp <;> (intros; first | rfl | omega), by (go_simp <;> (intros; omega))⟩ | ((repeat (with_reducible apply Exists.intro)); refine And.intro ?_ ?_; rotate_left; focus ((repeat' (with_reducible apply And.intro)) <;> rfl); exact ⟨j + 1, by omega, by go_num, by repeat' (first | with_reducible exact Below.refl _ _ | with_reducible assumption | with_reducible refine Below.drew ?_ | with_reducible refine Below.drewN ?_ _ | with_reducible refine Below.alloc ?_ ?_ _ | with_reducible refine Below.setCell ?_ ?_ _ | with_reducible refine Below.setRow ?_ ?_ _ | with_reducible refine below_step (by assumption) ?_ ?_ | (show (_ : Nat) ≤ _; first | omega | (simp <;> omega))), (by first | omega | (simp <;> omega)), by go_simp <;> first | exact HG.out | (intros; omega), by (go_simp <;> (intros; omega)), by (go_simp <;> (intros; omega)), by (go_simp <;> (intros; omega)), by rw [HN.out]; go_simp <;> (intros; first | rfl | omega), by (go_simp <;> (intros; omega))⟩)
        case measure => simp [intOf]; omega
      · have HN := Lib.hid (sten_no (n := j) hv)
        generalize j % W = x at *
        generalize j / W = y at *
        generalize sten c W (k + 1) j = d at *
        have hd : (c (2 + y * 8 + x) == k + 1) = false := by simpa using hv
        clear hv
        go_wp2_with ((go_at_call 94; refine (shown_any _ c hf x y hx8 hy8 _ (by (go_simp <;> (intros; omega))) (by first | omega | (simp <;> omega))).mono ?_; rintro e w1 ⟨rfl, hb1⟩; have r1 := keep_rowA hb1; have f1 := keep_frA hb1; have s1 := hb1.size; (try simp only [World.size_alloc, World.size_setCell, setRow_size, World.size_drew] at r1 f1 s1)))
        go_wp2
        go_roundw
        case rel => first | exact ⟨j + 1, by omega, by go_num, by repeat' (first | with_reducible exact Below.refl _ _ | with_reducible assumption | with_reducible refine Below.drew ?_ | with_reducible refine Below.drewN ?_ _ | with_reducible refine Below.alloc ?_ ?_ _ | with_reducible refine Below.setCell ?_ ?_ _ | with_reducible refine Below.setRow ?_ ?_ _ | with_reducible refine below_step (by assumption) ?_ ?_ | (show (_ : Nat) ≤ _; first | omega | (simp <;> omega))), (by first | omega | (simp <;> omega)), by go_simp <;> first | exact HG.out | (intros; omega), by (go_simp <;> (intros; omega)), by (go_simp <;> (intros; omega)), by (go_simp <;> (intros; omega)), by rw [HN.out]; (go_simp <;> (intros; omega)), by (go_simp <;> (intros; omega))⟩ | ((repeat (with_reducible apply Exists.intro)); refine And.intro ?_ ?_; rotate_left; focus ((repeat' (with_reducible apply And.intro)) <;> rfl); exact ⟨j + 1, by omega, by go_num, by repeat' (first | with_reducible exact Below.refl _ _ | with_reducible assumption | with_reducible refine Below.drew ?_ | with_reducible refine Below.drewN ?_ _ | with_reducible refine Below.alloc ?_ ?_ _ | with_reducible refine Below.setCell ?_ ?_ _ | with_reducible refine Below.setRow ?_ ?_ _ | with_reducible refine below_step (by assumption) ?_ ?_ | (show (_ : Nat) ≤ _; first | omega | (simp <;> omega))), (by first | omega | (simp <;> omega)), by go_simp <;> first | exact HG.out | (intros; omega), by (go_simp <;> (intros; omega)), by (go_simp <;> (intros; omega)), by (go_simp <;> (intros; omega)), by rw [HN.out]; (go_simp <;> (intros; omega)), by (go_simp <;> (intros; omega))⟩)
        case measure => simp [intOf]; omega
    · have hje : j = n := by omega
      subst hje
      go_wp2
      refine bodyPost_ret (v := .tuple #[.agg (kc (fun _ => .u8) 8 (sten c W (k + 1) j)), .int .i64 0]) (res_ct rfl rfl (by (go_simp <;> (intros; omega))) rfl) rfl ⟨rfl, by repeat' (first | with_reducible exact Below.refl _ _ | with_reducible assumption | with_reducible refine Below.drew ?_ | with_reducible refine Below.drewN ?_ _ | with_reducible refine Below.alloc ?_ ?_ _ | with_reducible refine Below.setCell ?_ ?_ _ | with_reducible refine Below.setRow ?_ ?_ _ | with_reducible refine below_step (by assumption) ?_ ?_ | (show (_ : Nat) ≤ _; first | omega | (simp <;> omega)))⟩
end Go.Proofs.Ytigiooollonmjaa
