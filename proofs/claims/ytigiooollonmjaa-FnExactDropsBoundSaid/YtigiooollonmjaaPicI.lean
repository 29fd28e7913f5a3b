/- A picture's code, its sheet, what a cell shows, and how many cells show each ink: the program. -/
import Derived.Test.YtigiooollonmjaaPicsV
import Derived.Test.YtigiooollonmjaaBlank
namespace Go.Proofs.Ytigiooollonmjaa
open Go.RowKit
set_option linter.unusedVariables false
set_option linter.unusedSimpArgs false
set_option maxRecDepth 100000
theorem fit_blank {c : Nat → Int} (hf : FitPicture c) : FitSheet (blank (c 0) (c 1)) where
  side := fun j hj => by
    have h0 := hf.side 0 (by omega)
    have h1 := hf.side 1 (by omega)
    unfold blank; repeat' split
    all_goals omega
  cell := fun j hj hk => by unfold blank; rw [if_neg (by omega), if_neg (by omega)]; omega
  wax := fun j hj hk => by unfold blank; rw [if_neg (by omega), if_neg (by omega)]; omega
theorem pcode_any (p : Nat) (c : Nat → Int) (hf : FitPicture c) (i : Bool) (w : World) (hr : rowOf w p = kc pk 66 c) (hp : p < w.heap.size) :
    Calls Try.prog 88 #[.pointer (some ⟨p, 0, none⟩), .bool i] w fun e w' => e = .returned (.int .i64 (askB (okP c) i true)) ∧ Below w.heap.size w w' := by
  have hO := fun w => iValidPicture_any c hf w
  generalize okP c = b0 at hO ⊢
  have HO := Lib.hid hO
  clear hO
  cases b0 <;> cases i
  all_goals
    go_enter Try.func88, Try.ntmps88
    go_wp2_with ((go_at_call 98; refine (HO.out _).mono ?_; rintro e w1 ⟨rfl, hb1⟩; have r1 := keep_rowA hb1; have f1 := keep_frA hb1; have s1 := hb1.size; (try simp only [World.size_alloc, World.size_setCell, setRow_size, World.size_drew] at r1 f1 s1)))
    go_ret
    exact ⟨rfl, by repeat' (first | with_reducible exact Below.refl _ _ | with_reducible assumption | with_reducible refine Below.drew ?_ | with_reducible refine Below.drewN ?_ _ | with_reducible refine Below.alloc ?_ ?_ _ | with_reducible refine Below.setCell ?_ ?_ _ | with_reducible refine Below.setRow ?_ ?_ _ | with_reducible refine below_step (by assumption) ?_ ?_ | (show (_ : Nat) ≤ _; first | omega | (simp <;> omega)))⟩
set_option maxHeartbeats 1000000 in
theorem sheet_any (p : Nat) (c : Nat → Int) (hf : FitPicture c) (w : World) (hr : rowOf w p = kc pk 66 c) (hp : p < w.heap.size) :
    Calls Try.prog 92 #[.pointer (some ⟨p, 0, none⟩)] w fun e w' => ∃ n, e = .returned (.pointer (some ⟨n, 0, none⟩)) ∧ w.heap.size ≤ n ∧ n < w'.heap.size ∧ rowOf w' n = kc sk 266 (blank (c 0) (c 1)) ∧ Below w.heap.size w w' := by
  go_enter Try.func92, Try.ntmps92
  go_wp2
  go_region
  go_wp2
  go_ret
  exact ⟨_, rfl, (by first | omega | (simp <;> omega)), (by first | omega | (simp <;> omega)), by go_simp; rfl, by repeat' (first | with_reducible exact Below.refl _ _ | with_reducible assumption | with_reducible refine Below.drew ?_ | with_reducible refine Below.drewN ?_ _ | with_reducible refine Below.alloc ?_ ?_ _ | with_reducible refine Below.setCell ?_ ?_ _ | with_reducible refine Below.setRow ?_ ?_ _ | with_reducible refine below_step (by assumption) ?_ ?_ | (show (_ : Nat) ≤ _; first | omega | (simp <;> omega)))⟩
set_option maxHeartbeats 1000000 in
theorem shown_any (p : Nat) (c : Nat → Int) (hf : FitPicture c) (x y : Nat) (hx : x < 8) (hy : y < 8) (w : World) (hr : rowOf w p = kc pk 66 c) (hp : p < w.heap.size) :
    Calls Try.prog 94 #[.pointer (some ⟨p, 0, none⟩), .agg #[.int .i8 x, .int .i8 y]] w fun e w' => e = .returned (.int .u8 (c (2 + y * 8 + x))) ∧ Below w.heap.size w w' := by
  have hcell := hf.cell (2 + y * 8 + x) (by omega) (by omega)
  go_enter Try.func94, Try.ntmps94
  go_wp2
  go_quiet (fail)
  go_wp2
  go_ret
  exact ⟨rfl, by repeat' (first | with_reducible exact Below.refl _ _ | with_reducible assumption | with_reducible refine Below.drew ?_ | with_reducible refine Below.drewN ?_ _ | with_reducible refine Below.alloc ?_ ?_ _ | with_reducible refine Below.setCell ?_ ?_ _ | with_reducible refine Below.setRow ?_ ?_ _ | with_reducible refine below_step (by assumption) ?_ ?_ | (show (_ : Nat) ≤ _; first | omega | (simp <;> omega)))⟩
theorem four {v : Int} (h : 0 ≤ v) (g : v ≤ 3) : v = 0 ∨ v = 1 ∨ v = 2 ∨ v = 3 := by omega
/-- What is known at the head of a round of 'counts': its boxes and the slice of cells hold these rows. -/
def Cnt3 (c : Nat → Int) (W n : Nat) (w0 w1 : World) (g : Nat) (i : Value) (wr : World) : Prop := ∃ k : Nat, k ≤ n ∧ i = .int .i64 k ∧ Below w0.heap.size w0 wr ∧ w1.heap.size ≤ wr.heap.size ∧ rowOf wr g = rowOf w1 g ∧ rowOf wr w0.heap.size = #[.int .i64 0, .int .i64 0, .int .i64 0] ∧ frOf wr w0.heap.size = (0, 0) ∧ rowOf wr (w0.heap.size + 1) = #[.int .i64 (cnt c W 1 k), .int .i64 (cnt c W 2 k), .int .i64 (cnt c W 3 k)] ∧ frOf wr (w0.heap.size + 1) = (0, 0)
set_option maxHeartbeats 4000000 in
theorem counts_any (p : Nat) (c : Nat → Int) (hf : FitPicture c) (ho : okP c = true) (W H : Nat) (hW : c 0 = W) (hH : c 1 = H) (W0 : 0 < W) (H0 : 0 < H) (W8 : W ≤ 8) (H8 : H ≤ 8) (w : World) (hr : rowOf w p = kc pk 66 c) (hp : p < w.heap.size) :
    Calls Try.prog 90 #[.pointer (some ⟨p, 0, none⟩)] w fun e w' => e = .returned (.agg #[.int .i64 (cnt c W 1 (H * W)), .int .i64 (cnt c W 2 (H * W)), .int .i64 (cnt c W 3 (H * W))]) ∧ Below w.heap.size w w' := by
  have hn0 : 0 < H * W := Nat.mul_pos H0 W0
  have hnb : H * W ≤ 8 * W := Nat.mul_le_mul_right _ H8
  have hnb2 : H * W ≤ 64 := by omega
  have h3 : ∀ x y : Nat, x < 8 → y < 8 → 0 ≤ c (2 + y * 8 + x) ∧ c (2 + y * 8 + x) ≤ 3 := fun x y hx hy => ⟨(hf.cell (2 + y * 8 + x) (by omega) (by omega)).1, okP_cell ho hx hy⟩
  have H3 := Lib.hid h3
  have HB := Lib.hid (fit_blank hf)
  clear h3 ho
  generalize hn : H * W = n at *
  go_enter Try.func90, Try.ntmps90
  go_wp2_with (first | (go_at_call 92; refine (sheet_any _ c hf _ (by (go_simp <;> (intros; omega))) (by first | omega | (simp <;> omega))).mono ?_; rintro e w2 ⟨q, rfl, hq, hqs, hrq, hb2⟩; have r_hb2 := keep_rowA hb2; have f_hb2 := keep_frA hb2; have s_hb2 := hb2.size; (try simp only [World.size_alloc, World.size_setCell, setRow_size, World.size_drew] at r_hb2 f_hb2 s_hb2)) | (go_at_call 93; refine (cells_any _ _ HB.out W H (by exact hW) (by exact hH) W8 H8 _ hrq hqs).mono ?_; rintro e w1 ⟨v, rfl, hown, hb1⟩; rw [hn] at hown; obtain ⟨g, cap, rfl, hg, hgs, hcells⟩ := owns_some hown hn0; have HC := Lib.hid hcells; have HO := Lib.hid hown; clear hown hcells; have r_hb1 := keep_rowA hb1; have f_hb1 := keep_frA hb1; have s_hb1 := hb1.size; (try simp only [World.size_alloc, World.size_setCell, setRow_size, World.size_drew] at r_hb1 f_hb1 s_hb1)))
  have hq2 : w.heap.size + 2 ≤ q := by simp at hq; omega
  have hg2 : w.heap.size + 2 ≤ g := by have := hb2.size; simp at this; omega
  go_loopw [12] (fun i wr => Cnt3 c W n w w1 g i wr) (fun i wr => n - (intOf i).toNat)
  case atStart => exact ⟨0, by omega, rfl, by repeat' (first | with_reducible exact Below.refl _ _ | with_reducible assumption | with_reducible refine Below.drew ?_ | with_reducible refine Below.drewN ?_ _ | with_reducible refine Below.alloc ?_ ?_ _ | with_reducible refine Below.setCell ?_ ?_ _ | with_reducible refine Below.setRow ?_ ?_ _ | with_reducible refine below_step (by assumption) ?_ ?_ | (show (_ : Nat) ≤ _; first | omega | (simp <;> omega))), Nat.le_refl _, rfl, by (go_simp <;> (intros; omega)), by (go_simp <;> (intros; omega)), by simp only [cnt_zero]; (go_simp <;> (intros; omega)), by (go_simp <;> (intros; omega))⟩
  case round =>
    obtain ⟨k, hk, rfl, hb, hsz, hgr0, hr2, hf2, hr3, hf3⟩ := hrel
    have hrw : rowOf wr p = kc pk 66 c := (keep_row hb hp).trans hr
    have hpw : p < wr.heap.size := Nat.lt_of_lt_of_le hp hb.size
    have hgw : g < wr.heap.size := Nat.lt_of_lt_of_le hgs hsz
    by_cases hlt : k < n
    · obtain ⟨c1, c2⟩ := spots_drop W n k hlt
      have r1 := hgr0 ▸ HC.out _ _ c1
      have r2 := hgr0 ▸ HC.out _ _ c2
      obtain ⟨hx8, hy8, -, -⟩ := cell_at (k := k) W0 W8 H8 (by omega)
      have hi1 := cnt_in c W 1 k
      have hi2 := cnt_in c W 2 k
      have hi3 := cnt_in c W 3 k
      have ⟨h0, h1⟩ := H3.out _ _ hx8 hy8
      rcases four h0 h1 with hv | hv | hv | hv
      · clear c1 c2
        have HG := Lib.hid hgr0
        clear hgr0
        have HS := Lib.hid (fun w hr hp => hv ▸ shown_any p c hf (k % W) (k / W) hx8 hy8 w hr hp)
        have HN1 := Lib.hid (show cnt c W 1 (k + 1) = cnt c W 1 k + 0 from (cnt_no (by show c (2 + k / W * 8 + k % W) ≠ _; rw [hv]; omega)).trans (Int.add_zero _).symm)
        have HN2 := Lib.hid (show cnt c W 2 (k + 1) = cnt c W 2 k + 0 from (cnt_no (by show c (2 + k / W * 8 + k % W) ≠ _; rw [hv]; omega)).trans (Int.add_zero _).symm)
        have HN3 := Lib.hid (show cnt c W 3 (k + 1) = cnt c W 3 k + 0 from (cnt_no (by show c (2 + k / W * 8 + k % W) ≠ _; rw [hv]; omega)).trans (Int.add_zero _).symm)
        clear hv
        generalize k % W = x at *
        generalize k / W = y at *
        generalize cnt c W 1 k = S1 at *
        generalize cnt c W 2 k = S2 at *
        generalize cnt c W 3 k = S3 at *
        go_wp2_with ((go_at_call 94; refine (HS.out _ (by (go_simp <;> (intros; omega))) (by first | omega | (simp <;> omega))).mono ?_; rintro e w1 ⟨rfl, hb1⟩; have r1 := keep_rowA hb1; have f1 := keep_frA hb1; have s1 := hb1.size; (try simp only [World.size_alloc, World.size_setCell, setRow_size, World.size_drew] at r1 f1 s1)))
        go_roundw
        case rel => first | exact ⟨k + 1, by omega, by go_num, by repeat' (first | with_reducible exact Below.refl _ _ | with_reducible assumption | with_reducible refine Below.drew ?_ | with_reducible refine Below.drewN ?_ _ | with_reducible refine Below.alloc ?_ ?_ _ | with_reducible refine Below.setCell ?_ ?_ _ | with_reducible refine Below.setRow ?_ ?_ _ | with_reducible refine below_step (by assumption) ?_ ?_ | (show (_ : Nat) ≤ _; first | omega | (simp <;> omega))), (by first | omega | (simp <;> omega)), by go_simp <;> first | exact HG.out | (intros; omega), by (go_simp <;> (intros; omega)), by (go_simp <;> (intros; omega)), by rw [HN1.out, HN2.out, HN3.out]; (go_simp <;> (intros; omega)), by (go_simp <;> (intros; omega))⟩ | ((repeat (with_reducible apply Exists.intro)); refine And.intro ?_ ?_; rotate_left; focus ((repeat' (with_reducible apply And.intro)) <;> rfl); exact ⟨k + 1, by omega, by go_num, by repeat' (first | with_reducible exact Below.refl _ _ | with_reducible assumption | with_reducible refine Below.drew ?_ | with_reducible refine Below.drewN ?_ _ | with_reducible refine Below.alloc ?_ ?_ _ | with_reducible refine Below.setCell ?_ ?_ _ | with_reducible refine Below.setRow ?_ ?_ _ | with_reducible refine below_step (by assumption) ?_ ?_ | (show (_ : Nat) ≤ _; first | omega | (simp <;> omega))), (by first | omega | (simp <;> omega)), by go_simp <;> first | exact HG.out | (intros; omega), by (go_simp <;> (intros; omega)), by (go_simp <;> (intros; omega)), by rw [HN1.out, HN2.out, HN3.out]; (go_simp <;> (intros; omega)), by (go_simp <;> (intros; omega))⟩)
        case measure => simp [intOf]; omega
      · clear c1 c2
        have HG := Lib.hid hgr0
        clear hgr0
        have HS := Lib.hid (fun w hr hp => hv ▸ shown_any p c hf (k % W) (k / W) hx8 hy8 w hr hp)
        have HN1 := Lib.hid (show cnt c W 1 (k + 1) = cnt c W 1 k + 1 from cnt_yes hv)
        have HN2 := Lib.hid (show cnt c W 2 (k + 1) = cnt c W 2 k + 0 from (cnt_no (by show c (2 + k / W * 8 + k % W) ≠ _; rw [hv]; omega)).trans (Int.add_zero _).symm)
        have HN3 := Lib.hid (show cnt c W 3 (k + 1) = cnt c W 3 k + 0 from (cnt_no (by show c (2 + k / W * 8 + k % W) ≠ _; rw [hv]; omega)).trans (Int.add_zero _).symm)
        clear hv
        generalize k % W = x at *
        generalize k / W = y at *
        generalize cnt c W 1 k = S1 at *
        generalize cnt c W 2 k = S2 at *
        generalize cnt c W 3 k = S3 at *
        go_wp2_with ((go_at_call 94; refine (HS.out _ (by (go_simp <;> (intros; omega))) (by first | omega | (simp <;> omega))).mono ?_; rintro e w1 ⟨rfl, hb1⟩; have r1 := keep_rowA hb1; have f1 := keep_frA hb1; have s1 := hb1.size; (try simp only [World.size_alloc, World.size_setCell, setRow_size, World.size_drew] at r1 f1 s1)))
        go_roundw
        case rel => first | exact ⟨k + 1, by omega, by go_num, by repeat' (first | with_reducible exact Below.refl _ _ | with_reducible assumption | with_reducible refine Below.drew ?_ | with_reducible refine Below.drewN ?_ _ | with_reducible refine Below.alloc ?_ ?_ _ | with_reducible refine Below.setCell ?_ ?_ _ | with_reducible refine Below.setRow ?_ ?_ _ | with_reducible refine below_step (by assumption) ?_ ?_ | (show (_ : Nat) ≤ _; first | omega | (simp <;> omega))), (by first | omega | (simp <;> omega)), by go_simp <;> first | exact HG.out | (intros; omega), by (go_simp <;> (intros; omega)), by (go_simp <;> (intros; omega)), by rw [HN1.out, HN2.out, HN3.out]; (go_simp <;> (intros; omega)), by (go_simp <;> (intros; omega))⟩ | ((repeat (with_reducible apply Exists.intro)); refine And.intro ?_ ?_; rotate_left; focus ((repeat' (with_reducible apply And.intro)) <;> rfl); exact ⟨k + 1, by omega, by go_num, by repeat' (first | with_reducible exact Below.refl _ _ | with_reducible assumption | with_reducible refine Below.drew ?_ | with_reducible refine Below.drewN ?_ _ | with_reducible refine Below.alloc ?_ ?_ _ | with_reducible refine Below.setCell ?_ ?_ _ | with_reducible refine Below.setRow ?_ ?_ _ | with_reducible refine below_step (by assumption) ?_ ?_ | (show (_ : Nat) ≤ _; first | omega | (simp <;> omega))), (by first | omega | (simp <;> omega)), by go_simp <;> first | exact HG.out | (intros; omega), by (go_simp <;> (intros; omega)), by (go_simp <;> (intros; omega)), by rw [HN1.out, HN2.out, HN3.out]; (go_simp <;> (intros; omega)), by (go_simp <;> (intros; omega))⟩)
        case measure => simp [intOf]; omega
      · clear c1 c2
        have HG := Lib.hid hgr0
        clear hgr0
        have HS := Lib.hid (fun w hr hp => hv ▸ shown_any p c hf (k % W) (k / W) hx8 hy8 w hr hp)
        have HN1 := Lib.hid (show cnt c W 1 (k + 1) = cnt c W 1 k + 0 from (cnt_no (by show c (2 + k / W * 8 + k % W) ≠ _; rw [hv]; omega)).trans (Int.add_zero _).symm)
        have HN2 := Lib.hid (show cnt c W 2 (k + 1) = cnt c W 2 k + 1 from cnt_yes hv)
        have HN3 := Lib.hid (show cnt c W 3 (k + 1) = cnt c W 3 k + 0 from (cnt_no (by show c (2 + k / W * 8 + k % W) ≠ _; rw [hv]; omega)).trans (Int.add_zero _).symm)
        clear hv
        generalize k % W = x at *
        generalize k / W = y at *
        generalize cnt c W 1 k = S1 at *
        generalize cnt c W 2 k = S2 at *
        generalize cnt c W 3 k = S3 at *
        go_wp2_with ((go_at_call 94; refine (HS.out _ (by (go_simp <;> (intros; omega))) (by first | omega | (simp <;> omega))).mono ?_; rintro e w1 ⟨rfl, hb1⟩; have r1 := keep_rowA hb1; have f1 := keep_frA hb1; have s1 := hb1.size; (try simp only [World.size_alloc, World.size_setCell, setRow_size, World.size_drew] at r1 f1 s1)))
        go_roundw
        case rel => first | exact ⟨k + 1, by omega, by go_num, by repeat' (first | with_reducible exact Below.refl _ _ | with_reducible assumption | with_reducible refine Below.drew ?_ | with_reducible refine Below.drewN ?_ _ | with_reducible refine Below.alloc ?_ ?_ _ | with_reducible refine Below.setCell ?_ ?_ _ | with_reducible refine Below.setRow ?_ ?_ _ | with_reducible refine below_step (by assumption) ?_ ?_ | (show (_ : Nat) ≤ _; first | omega | (simp <;> omega))), (by first | omega | (simp <;> omega)), by go_simp <;> first | exact HG.out | (intros; omega), by (go_simp <;> (intros; omega)), by (go_simp <;> (intros; omega)), by rw [HN1.out, HN2.out, HN3.out]; (go_simp <;> (intros; omega)), by (go_simp <;> (intros; omega))⟩ | ((repeat (with_reducible apply Exists.intro)); refine And.intro ?_ ?_; rotate_left; focus ((repeat' (with_reducible apply And.intro)) <;> rfl); exact ⟨k + 1, by omega, by go_num, by repeat' (first | with_reducible exact Below.refl _ _ | with_reducible assumption | with_reducible refine Below.drew ?_ | with_reducible refine Below.drewN ?_ _ | with_reducible refine Below.alloc ?_ ?_ _ | with_reducible refine Below.setCell ?_ ?_ _ | with_reducible refine Below.setRow ?_ ?_ _ | with_reducible refine below_step (by assumption) ?_ ?_ | (show (_ : Nat) ≤ _; first | omega | (simp <;> omega))), (by first | omega | (simp <;> omega)), by go_simp <;> first | exact HG.out | (intros; omega), by (go_simp <;> (intros; omega)), by (go_simp <;> (intros; omega)), by rw [HN1.out, HN2.out, HN3.out]; (go_simp <;> (intros; omega)), by (go_simp <;> (intros; omega))⟩)
        case measure => simp [intOf]; omega
      · clear c1 c2
        have HG := Lib.hid hgr0
        clear hgr0
        have HS := Lib.hid (fun w hr hp => hv ▸ shown_any p c hf (k % W) (k / W) hx8 hy8 w hr hp)
        have HN1 := Lib.hid (show cnt c W 1 (k + 1) = cnt c W 1 k + 0 from (cnt_no (by show c (2 + k / W * 8 + k % W) ≠ _; rw [hv]; omega)).trans (Int.add_zero _).symm)
        have HN2 := Lib.hid (show cnt c W 2 (k + 1) = cnt c W 2 k + 0 from (cnt_no (by show c (2 + k / W * 8 + k % W) ≠ _; rw [hv]; omega)).trans (Int.add_zero _).symm)
        have HN3 := Lib.hid (show cnt c W 3 (k + 1) = cnt c W 3 k + 1 from cnt_yes hv)
        clear hv
        generalize k % W = x at *
        generalize k / W = y at *
        generalize cnt c W 1 k = S1 at *
        generalize cnt c W 2 k = S2 at *
        generalize cnt c W 3 k = S3 at *
        go_wp2_with ((go_at_call 94; refine (HS.out _ (by (go_simp <;> (intros; omega))) (by first | omega | (simp <;> omega))).mono ?_; rintro e w1 ⟨rfl, hb1⟩; have r1 := keep_rowA hb1; have f1 := keep_frA hb1; have s1 := hb1.size; (try simp only [World.size_alloc, World.size_setCell, setRow_size, World.size_drew] at r1 f1 s1)))
        go_roundw
        case rel => first | exact ⟨k + 1, by omega, by go_num, by repeat' (first | with_reducible exact Below.refl _ _ | with_reducible assumption | with_reducible refine Below.drew ?_ | with_reducible refine Below.drewN ?_ _ | with_reducible refine Below.alloc ?_ ?_ _ | with_reducible refine Below.setCell ?_ ?_ _ | with_reducible refine Below.setRow ?_ ?_ _ | with_reducible refine below_step (by assumption) ?_ ?_ | (show (_ : Nat) ≤ _; first | omega | (simp <;> omega))), (by first | omega | (simp <;> omega)), by go_simp <;> first | exact HG.out | (intros; omega), by (go_simp <;> (intros; omega)), by (go_simp <;> (intros; omega)), by rw [HN1.out, HN2.out, HN3.out]; (go_simp <;> (intros; omega)), by (go_simp <;> (intros; omega))⟩ | ((repeat (with_reducible apply Exists.intro)); refine And.intro ?_ ?_; rotate_left; focus ((repeat' (with_reducible apply And.intro)) <;> rfl); exact ⟨k + 1, by omega, by go_num, by repeat' (first | with_reducible exact Below.refl _ _ | with_reducible assumption | with_reducible refine Below.drew ?_ | with_reducible refine Below.drewN ?_ _ | with_reducible refine Below.alloc ?_ ?_ _ | with_reducible refine Below.setCell ?_ ?_ _ | with_reducible refine Below.setRow ?_ ?_ _ | with_reducible refine below_step (by assumption) ?_ ?_ | (show (_ : Nat) ≤ _; first | omega | (simp <;> omega))), (by first | omega | (simp <;> omega)), by go_simp <;> first | exact HG.out | (intros; omega), by (go_simp <;> (intros; omega)), by (go_simp <;> (intros; omega)), by rw [HN1.out, HN2.out, HN3.out]; (go_simp <;> (intros; omega)), by (go_simp <;> (intros; omega))⟩)
        case measure => simp [intOf]; omega
    · have hke : k = n := by omega
      subst hke
      go_wp2
      refine bodyPost_ret (v := .agg #[.int .i64 (cnt c W 1 k), .int .i64 (cnt c W 2 k), .int .i64 (cnt c W 3 k)]) (res_c rfl rfl (by (go_simp <;> (intros; omega)))) rfl ⟨rfl, by repeat' (first | with_reducible exact Below.refl _ _ | with_reducible assumption | with_reducible refine Below.drew ?_ | with_reducible refine Below.drewN ?_ _ | with_reducible refine Below.alloc ?_ ?_ _ | with_reducible refine Below.setCell ?_ ?_ _ | with_reducible refine Below.setRow ?_ ?_ _ | with_reducible refine below_step (by assumption) ?_ ?_ | (show (_ : Nat) ≤ _; first | omega | (simp <;> omega)))⟩
end Go.Proofs.Ytigiooollonmjaa
