/- The pairs of partners of a fold: the program. Written by gen_pairs.py. -/
import Derived.Test.YtbnhhjjhjjmmjaaPairsV
import Derived.Test.YtbnhhjjhjjmmjaaCell
namespace Go.Proofs.Ytbnhhjjhjjmmjaa
open Go.RowKit
set_option linter.unusedVariables false
set_option linter.unusedSimpArgs false
set_option maxRecDepth 100000
set_option maxHeartbeats 40000000 in
theorem pairs_any (p : Nat) (c : Nat → Int) (hf : FitSheet c) (W H : Nat) (hW : c 0 = W) (hH : c 1 = H) (W0 : 0 < W) (H0 : 0 < H) (W8 : W ≤ 8) (H8 : H ≤ 8) (a : Int) (d : Bool) (q : Int) (ha : 1 ≤ a ∧ a ≤ 7) (w : World) (hr : rowOf w p = kc sk 266 c) (hp : p < w.heap.size) :
    Calls Try.prog 103 #[.pointer (some ⟨p, 0, none⟩), .agg #[.int .i8 a, .bool d, .int .i8 q]] w fun e w' => ∃ v, e = .returned v ∧ w'.ownsRow w.heap.size 131 4 v (selN (pairU c a d W) (H * W)) (prL (pairU c a d W) a d W (H * W)) ∧ Below w.heap.size w w' := by
  have hn0 : 0 < H * W := Nat.mul_pos H0 W0
  have hnb : H * W ≤ 8 * W := Nat.mul_le_mul_right _ H8
  have hnb2 : H * W ≤ 64 := by omega
  have HS := Lib.hid (fun w hr hp => cells_any p c hf W H hW hH W8 H8 w hr hp)
  have HCA := Lib.hid (fun k (hk : k < H * W) => cell_at (k := k) W0 W8 H8 hk)
  have HNAT := Lib.hid (fun x y (h : isP c x y = true) => show ∃ x2 y2 : Nat, x = (x2 : Int) ∧ y = (y2 : Int) ∧ x2 < 8 ∧ y2 < 8 from by
    unfold isP at h
    simp only [Bool.and_eq_true, inB_true] at h
    exact ⟨x.toNat, y.toNat, by omega, by omega, by omega, by omega⟩)
  have hs0 := hf.side 0 (by omega)
  have hs1 := hf.side 1 (by omega)
  obtain ⟨U, hU⟩ : ∃ U, U = pairU c a d W := ⟨_, rfl⟩
  have HU := Lib.hid hU
  rw [← hU]
  clear hU hW hH hnb
  generalize hn : H * W = n at *
  obtain ⟨i0, z0, hi0, hz0, hs0', hbz0, hc0⟩ := pair_info
  have hs0 := hs0'
  clear hs0'
  go_enter Try.func103, Try.ntmps103
  go_wp2_with (go_at_call 82; refine (HS.out _ (by (go_simp <;> (intros; omega))) (by first | omega | (simp <;> omega))).mono ?_; rintro e ws ⟨v, rfl, hown, hbs⟩; have r_hbs := keep_rowA hbs; have f_hbs := keep_frA hbs; have s_hbs := hbs.size; (try simp only [World.size_alloc, World.size_setCell, setRow_size, World.size_drew, size_drewNm] at r_hbs f_hbs s_hbs); obtain ⟨g, cap, rfl, hg, hgs, hcells⟩ := owns_some hown hn0; have HC := Lib.hid hcells; clear hown hcells)
  have hp0 : ws.heap[w.heap.size + 1]? = some (Obj.cells #[] 131) := by
    rw [hbs.block _ (by simp)]
    have h := heap_alloc_new (w.alloc (.cells #[.int .i8 a, .bool d, .int .i8 q] 49)) (Obj.cells #[] 131)
    rwa [show (w.alloc (.cells #[.int .i8 a, .bool d, .int .i8 q] 49)).heap.size = w.heap.size + 1 from by simp] at h
  have hsws := hbs.size
  have hg2 : w.heap.size + 2 ≤ g := by first | omega | (simp at hg; omega)
  go_loopw [13, 5] (fun i v wr => PrR U a d q W n 131 w ws g i v wr) (fun i v wr => n - (intOf i).toNat)
  case atStart => exact ⟨0, w.heap.size + 1, 0, by omega, rfl, rfl, by repeat' (first | with_reducible exact Below.refl _ _ | with_reducible assumption | with_reducible refine Below.drew ?_ | with_reducible refine Below.drewN ?_ _ | with_reducible refine Below.alloc ?_ ?_ _ | with_reducible refine Below.setCell ?_ ?_ _ | with_reducible refine Below.setRow ?_ ?_ _ | with_reducible refine below_step (by assumption) ?_ ?_ | (show (_ : Nat) ≤ _; first | omega | (simp <;> omega))), Nat.le_refl _, ⟨rfl, .inr ⟨_, 0, #[], rfl, (by first | omega | (simp <;> omega)), hp0, Nat.le_refl _, by unfold maxLen; omega, rfl, rfl⟩⟩, (by first | omega | (simp <;> omega)), (by first | omega | (simp <;> omega)), rfl, by (go_simp <;> (intros; omega))⟩
  case round =>
    obtain ⟨k, b, cap', hk, rfl, rfl, hb, hsz, hown, hbg, hb0', hgr, hrc⟩ := hrel
    have hsb := hb.size
    have HO := Lib.hid hown
    have HOW := Lib.hid (fun (w2 : World) (hb2 : Below wr.heap.size wr w2) => owns_belowN hown hb2)
    clear hown hp0
    have hrp := keep_row hb hp
    rw [hr] at hrp
    have hpw : p < wr.heap.size := Nat.lt_of_lt_of_le hp hsb
    by_cases hlt : k < n
    · obtain ⟨p1, p2⟩ := spots_drop W n k hlt
      have r1 := HC.out _ _ p1
      have r2 := HC.out _ _ p2
      rw [← hgr] at r1 r2
      have hgw : g < wr.heap.size := Nat.lt_of_lt_of_le hgs hsz
      obtain ⟨hx8, hy8, -, -⟩ := HCA.out k hlt
      have hle := selN_le U k
      have hkx0 : (0 : Int) ≤ ((k % W : Nat) : Int) := Int.natCast_nonneg _
      have hky0 : (0 : Int) ≤ ((k / W : Nat) : Int) := Int.natCast_nonneg _
      have HOG := Lib.hid hgr
      clear p1 p2 hgr
      have HPAR0 := Lib.hid (fun w => show Calls Try.prog 125 #[.agg #[.int .i8 a, .bool d, .int .i8 q], .agg #[.int .i8 ((k % W : Nat) : Int), .int .i8 ((k / W : Nat) : Int)]] w fun e w' => e = .returned (.agg #[.int .i8 (ptX a d W k), .int .i8 (ptY a d W k)]) ∧ Below w.heap.size w w' from partner_any a d q ((k % W : Nat) : Int) ((k / W : Nat) : Int) (by omega) (by omega) (by omega) w)
      have hpx : -8 ≤ ptX a d W k ∧ ptX a d W k ≤ 16 := by unfold ptX; split <;> omega
      have hpy : -8 ≤ ptY a d W k ∧ ptY a d W k ≤ 16 := by unfold ptY; split <;> omega
      have hIS := fun w hr hp => has_any p c hf (ptX a d W k) (ptY a d W k) (by omega) (by omega) w hr hp
      have hXA := fun w hr hp => waxed_any p c hf (k % W) (k / W) hx8 hy8 w hr hp
      have HORD0 := Lib.hid (fun w => inOrder_any ((k % W : Nat) : Int) ((k / W : Nat) : Int) (ptX a d W k) (ptY a d W k) w)
      rcases Bool.eq_false_or_eq_true (firstB a d ((k % W : Nat) : Int) ((k / W : Nat) : Int)) with h1 | h1
      case inr =>
        have HN := Lib.hid (prL_no (a := a) (d := d) (W := W) (U := U) (k := k) (by rw [HU.out]; exact pairU_1 h1))
        have HPAR := HPAR0
        have hord : ¬ ordI ((k % W : Nat) : Int) ((k / W : Nat) : Int) (ptX a d W k) (ptY a d W k) < 0 := fun h => by rw [(first_ord a d W k).2 h] at h1; cases h1
        have HORD := HORD0
        clear hIS hXA HPAR0 HORD0 h1
        generalize ordI ((k % W : Nat) : Int) ((k / W : Nat) : Int) (ptX a d W k) (ptY a d W k) = od at *
        generalize hgx : ptX a d W k = X at *
        generalize hgy : ptY a d W k = Y at *
        clear hgx hgy
        generalize k % W = x at *
        generalize k / W = y at *
        have hx0i : (0 : Int) ≤ (x : Int) := by omega
        have hy0i : (0 : Int) ≤ (y : Int) := by omega
        have hx8i : (x : Int) < 8 := by omega
        have hy8i : (y : Int) < 8 := by omega
        have hm1 : ¬ n ≤ k := by omega
        have hm2 : ¬ ((k : Int) < 0) := by omega
        go_wp2_with (first | (go_at_call 125; refine (HPAR.out _).mono ?_; rintro e w1 ⟨rfl, hb1⟩; have r1 := keep_rowA hb1; have f1 := keep_frA hb1; have s1 := hb1.size; (try simp only [World.size_alloc, World.size_setCell, setRow_size, World.size_drew, size_drewNm] at r1 f1 s1)) | (go_at_call 116; refine (HORD.out _).mono ?_; rintro e w1 ⟨rfl, hb1⟩; have r1 := keep_rowA hb1; have f1 := keep_frA hb1; have s1 := hb1.size; (try simp only [World.size_alloc, World.size_setCell, setRow_size, World.size_drew, size_drewNm] at r1 f1 s1)))
        go_roundw
        case rel => first | exact ⟨k + 1, b, cap', by omega, by go_num, by rw [HN.out.2], by repeat' (first | with_reducible exact Below.refl _ _ | with_reducible assumption | with_reducible refine Below.drew ?_ | with_reducible refine Below.drewN ?_ _ | with_reducible refine Below.alloc ?_ ?_ _ | with_reducible refine Below.setCell ?_ ?_ _ | with_reducible refine Below.setRow ?_ ?_ _ | with_reducible refine below_step (by assumption) ?_ ?_ | (show (_ : Nat) ≤ _; first | omega | (simp <;> omega))), (by first | omega | (simp <;> omega)), by rw [HN.out.1, HN.out.2]; exact HOW.out _ (by repeat' (first | with_reducible exact Below.refl _ _ | with_reducible assumption | with_reducible refine Below.drew ?_ | with_reducible refine Below.drewN ?_ _ | with_reducible refine Below.alloc ?_ ?_ _ | with_reducible refine Below.setCell ?_ ?_ _ | with_reducible refine Below.setRow ?_ ?_ _ | with_reducible refine below_step (by assumption) ?_ ?_ | (show (_ : Nat) ≤ _; first | omega | (simp <;> omega)))), hbg, hb0', by go_simp <;> first | exact HOG.out | (intros; omega), by (go_simp <;> (intros; omega))⟩ | ((repeat (with_reducible apply Exists.intro)); refine And.intro ?_ ?_; rotate_left; focus ((repeat' (with_reducible apply And.intro)) <;> rfl); exact ⟨k + 1, b, cap', by omega, by go_num, by rw [HN.out.2], by repeat' (first | with_reducible exact Below.refl _ _ | with_reducible assumption | with_reducible refine Below.drew ?_ | with_reducible refine Below.drewN ?_ _ | with_reducible refine Below.alloc ?_ ?_ _ | with_reducible refine Below.setCell ?_ ?_ _ | with_reducible refine Below.setRow ?_ ?_ _ | with_reducible refine below_step (by assumption) ?_ ?_ | (show (_ : Nat) ≤ _; first | omega | (simp <;> omega))), (by first | omega | (simp <;> omega)), by rw [HN.out.1, HN.out.2]; exact HOW.out _ (by repeat' (first | with_reducible exact Below.refl _ _ | with_reducible assumption | with_reducible refine Below.drew ?_ | with_reducible refine Below.drewN ?_ _ | with_reducible refine Below.alloc ?_ ?_ _ | with_reducible refine Below.setCell ?_ ?_ _ | with_reducible refine Below.setRow ?_ ?_ _ | with_reducible refine below_step (by assumption) ?_ ?_ | (show (_ : Nat) ≤ _; first | omega | (simp <;> omega)))), hbg, hb0', by go_simp <;> first | exact HOG.out | (intros; omega), by (go_simp <;> (intros; omega))⟩)
        case measure => simp [intOf] <;> omega
      have hord : ordI ((k % W : Nat) : Int) ((k / W : Nat) : Int) (ptX a d W k) (ptY a d W k) < 0 := (first_ord a d W k).1 h1
      have HORD := HORD0
      clear HORD0
      rcases Bool.eq_false_or_eq_true (isP c (ptX a d W k) (ptY a d W k)) with h2 | h2
      case inr =>
        rw [h2] at hIS
        have HIS := Lib.hid hIS
        have HN := Lib.hid (prL_no (a := a) (d := d) (W := W) (U := U) (k := k) (by rw [HU.out]; exact pairU_2 h2))
        have HPAR := HPAR0
        clear HPAR0 hIS hXA h1 h2
        generalize ordI ((k % W : Nat) : Int) ((k / W : Nat) : Int) (ptX a d W k) (ptY a d W k) = od at *
        generalize hgx : ptX a d W k = X at *
        generalize hgy : ptY a d W k = Y at *
        clear hgx hgy
        generalize k % W = x at *
        generalize k / W = y at *
        have hx0i : (0 : Int) ≤ (x : Int) := by omega
        have hy0i : (0 : Int) ≤ (y : Int) := by omega
        have hx8i : (x : Int) < 8 := by omega
        have hy8i : (y : Int) < 8 := by omega
        have hm1 : ¬ n ≤ k := by omega
        have hm2 : ¬ ((k : Int) < 0) := by omega
        go_wp2_with (first | (go_at_call 125; refine (HPAR.out _).mono ?_; rintro e w1 ⟨rfl, hb1⟩; have r1 := keep_rowA hb1; have f1 := keep_frA hb1; have s1 := hb1.size; (try simp only [World.size_alloc, World.size_setCell, setRow_size, World.size_drew, size_drewNm] at r1 f1 s1)) | (go_at_call 116; refine (HORD.out _).mono ?_; rintro e w1 ⟨rfl, hb1⟩; have r1 := keep_rowA hb1; have f1 := keep_frA hb1; have s1 := hb1.size; (try simp only [World.size_alloc, World.size_setCell, setRow_size, World.size_drew, size_drewNm] at r1 f1 s1)) | (go_at_call 96; refine (HIS.out _ (by (go_simp <;> (intros; omega))) (by first | omega | (simp <;> omega))).mono ?_; rintro e w1 ⟨rfl, hb1⟩; have r1 := keep_rowA hb1; have f1 := keep_frA hb1; have s1 := hb1.size; (try simp only [World.size_alloc, World.size_setCell, setRow_size, World.size_drew, size_drewNm] at r1 f1 s1)))
        go_roundw
        case rel => first | exact ⟨k + 1, b, cap', by omega, by go_num, by rw [HN.out.2], by repeat' (first | with_reducible exact Below.refl _ _ | with_reducible assumption | with_reducible refine Below.drew ?_ | with_reducible refine Below.drewN ?_ _ | with_reducible refine Below.alloc ?_ ?_ _ | with_reducible refine Below.setCell ?_ ?_ _ | with_reducible refine Below.setRow ?_ ?_ _ | with_reducible refine below_step (by assumption) ?_ ?_ | (show (_ : Nat) ≤ _; first | omega | (simp <;> omega))), (by first | omega | (simp <;> omega)), by rw [HN.out.1, HN.out.2]; exact HOW.out _ (by repeat' (first | with_reducible exact Below.refl _ _ | with_reducible assumption | with_reducible refine Below.drew ?_ | with_reducible refine Below.drewN ?_ _ | with_reducible refine Below.alloc ?_ ?_ _ | with_reducible refine Below.setCell ?_ ?_ _ | with_reducible refine Below.setRow ?_ ?_ _ | with_reducible refine below_step (by assumption) ?_ ?_ | (show (_ : Nat) ≤ _; first | omega | (simp <;> omega)))), hbg, hb0', by go_simp <;> first | exact HOG.out | (intros; omega), by (go_simp <;> (intros; omega))⟩ | ((repeat (with_reducible apply Exists.intro)); refine And.intro ?_ ?_; rotate_left; focus ((repeat' (with_reducible apply And.intro)) <;> rfl); exact ⟨k + 1, b, cap', by omega, by go_num, by rw [HN.out.2], by repeat' (first | with_reducible exact Below.refl _ _ | with_reducible assumption | with_reducible refine Below.drew ?_ | with_reducible refine Below.drewN ?_ _ | with_reducible refine Below.alloc ?_ ?_ _ | with_reducible refine Below.setCell ?_ ?_ _ | with_reducible refine Below.setRow ?_ ?_ _ | with_reducible refine below_step (by assumption) ?_ ?_ | (show (_ : Nat) ≤ _; first | omega | (simp <;> omega))), (by first | omega | (simp <;> omega)), by rw [HN.out.1, HN.out.2]; exact HOW.out _ (by repeat' (first | with_reducible exact Below.refl _ _ | with_reducible assumption | with_reducible refine Below.drew ?_ | with_reducible refine Below.drewN ?_ _ | with_reducible refine Below.alloc ?_ ?_ _ | with_reducible refine Below.setCell ?_ ?_ _ | with_reducible refine Below.setRow ?_ ?_ _ | with_reducible refine below_step (by assumption) ?_ ?_ | (show (_ : Nat) ≤ _; first | omega | (simp <;> omega)))), hbg, hb0', by go_simp <;> first | exact HOG.out | (intros; omega), by (go_simp <;> (intros; omega))⟩)
        case measure => simp [intOf] <;> omega
      obtain ⟨x2, y2, hx2, hy2, hx28, hy28⟩ := HNAT.out _ _ h2
      have hXB := fun w hr hp => waxed_any p c hf x2 y2 hx28 hy28 w hr hp
      rw [h2] at hIS
      have HIS := Lib.hid hIS
      clear hIS
      rcases Bool.eq_false_or_eq_true (waxS c (k % W) (k / W)) with h3 | h3
      case inl =>
        rw [h3] at hXA
        have HXA := Lib.hid hXA
        have HN := Lib.hid (prL_no (a := a) (d := d) (W := W) (U := U) (k := k) (by rw [HU.out]; exact pairU_3 h3))
        have HPAR := HPAR0
        clear HPAR0 hXA hXB h1 h2 h3
        generalize ordI ((k % W : Nat) : Int) ((k / W : Nat) : Int) (ptX a d W k) (ptY a d W k) = od at *
        rw [hx2, hy2] at HPAR HIS HORD
        clear hx2 hy2 hpx hpy
        generalize k % W = x at *
        generalize k / W = y at *
        have hx0i : (0 : Int) ≤ (x : Int) := by omega
        have hy0i : (0 : Int) ≤ (y : Int) := by omega
        have hx8i : (x : Int) < 8 := by omega
        have hy8i : (y : Int) < 8 := by omega
        have hm1 : ¬ n ≤ k := by omega
        have hm2 : ¬ ((k : Int) < 0) := by omega
        go_wp2_with (first | (go_at_call 125; refine (HPAR.out _).mono ?_; rintro e w1 ⟨rfl, hb1⟩; have r1 := keep_rowA hb1; have f1 := keep_frA hb1; have s1 := hb1.size; (try simp only [World.size_alloc, World.size_setCell, setRow_size, World.size_drew, size_drewNm] at r1 f1 s1)) | (go_at_call 116; refine (HORD.out _).mono ?_; rintro e w1 ⟨rfl, hb1⟩; have r1 := keep_rowA hb1; have f1 := keep_frA hb1; have s1 := hb1.size; (try simp only [World.size_alloc, World.size_setCell, setRow_size, World.size_drew, size_drewNm] at r1 f1 s1)) | (go_at_call 96; refine (HIS.out _ (by (go_simp <;> (intros; omega))) (by first | omega | (simp <;> omega))).mono ?_; rintro e w1 ⟨rfl, hb1⟩; have r1 := keep_rowA hb1; have f1 := keep_frA hb1; have s1 := hb1.size; (try simp only [World.size_alloc, World.size_setCell, setRow_size, World.size_drew, size_drewNm] at r1 f1 s1)) | (go_at_call 77; with_reducible refine (HXA.out _ ?_ ?_).mono ?_; (focus (go_simp <;> (intros; omega))); (focus (first | omega | (simp <;> omega))); rintro e w1 ⟨rfl, hb1⟩; have r_hb1 := keep_rowA hb1; have f_hb1 := keep_frA hb1; have s_hb1 := hb1.size; (try simp only [World.size_alloc, World.size_setCell, setRow_size, World.size_drew, size_drewNm] at r_hb1 f_hb1 s_hb1)))
        go_roundw
        case rel => first | exact ⟨k + 1, b, cap', by omega, by go_num, by rw [HN.out.2], by repeat' (first | with_reducible exact Below.refl _ _ | with_reducible assumption | with_reducible refine Below.drew ?_ | with_reducible refine Below.drewN ?_ _ | with_reducible refine Below.alloc ?_ ?_ _ | with_reducible refine Below.setCell ?_ ?_ _ | with_reducible refine Below.setRow ?_ ?_ _ | with_reducible refine below_step (by assumption) ?_ ?_ | (show (_ : Nat) ≤ _; first | omega | (simp <;> omega))), (by first | omega | (simp <;> omega)), by rw [HN.out.1, HN.out.2]; exact HOW.out _ (by repeat' (first | with_reducible exact Below.refl _ _ | with_reducible assumption | with_reducible refine Below.drew ?_ | with_reducible refine Below.drewN ?_ _ | with_reducible refine Below.alloc ?_ ?_ _ | with_reducible refine Below.setCell ?_ ?_ _ | with_reducible refine Below.setRow ?_ ?_ _ | with_reducible refine below_step (by assumption) ?_ ?_ | (show (_ : Nat) ≤ _; first | omega | (simp <;> omega)))), hbg, hb0', by go_simp <;> first | exact HOG.out | (intros; omega), by (go_simp <;> (intros; omega))⟩ | ((repeat (with_reducible apply Exists.intro)); refine And.intro ?_ ?_; rotate_left; focus ((repeat' (with_reducible apply And.intro)) <;> rfl); exact ⟨k + 1, b, cap', by omega, by go_num, by rw [HN.out.2], by repeat' (first | with_reducible exact Below.refl _ _ | with_reducible assumption | with_reducible refine Below.drew ?_ | with_reducible refine Below.drewN ?_ _ | with_reducible refine Below.alloc ?_ ?_ _ | with_reducible refine Below.setCell ?_ ?_ _ | with_reducible refine Below.setRow ?_ ?_ _ | with_reducible refine below_step (by assumption) ?_ ?_ | (show (_ : Nat) ≤ _; first | omega | (simp <;> omega))), (by first | omega | (simp <;> omega)), by rw [HN.out.1, HN.out.2]; exact HOW.out _ (by repeat' (first | with_reducible exact Below.refl _ _ | with_reducible assumption | with_reducible refine Below.drew ?_ | with_reducible refine Below.drewN ?_ _ | with_reducible refine Below.alloc ?_ ?_ _ | with_reducible refine Below.setCell ?_ ?_ _ | with_reducible refine Below.setRow ?_ ?_ _ | with_reducible refine below_step (by assumption) ?_ ?_ | (show (_ : Nat) ≤ _; first | omega | (simp <;> omega)))), hbg, hb0', by go_simp <;> first | exact HOG.out | (intros; omega), by (go_simp <;> (intros; omega))⟩)
        case measure => simp [intOf] <;> omega
      rw [h3] at hXA
      have HXA := Lib.hid hXA
      clear hXA
      rcases Bool.eq_false_or_eq_true (waxS c x2 y2) with h4 | h4
      case inl =>
        rw [h4] at hXB
        have HXB := Lib.hid hXB
        have HN := Lib.hid (prL_no (a := a) (d := d) (W := W) (U := U) (k := k) (by rw [HU.out]; exact pairU_4 (by rw [hx2, hy2]; exact h4)))
        have HPAR := HPAR0
        clear HPAR0 hXB h1 h2 h3 h4
        generalize ordI ((k % W : Nat) : Int) ((k / W : Nat) : Int) (ptX a d W k) (ptY a d W k) = od at *
        rw [hx2, hy2] at HPAR HIS HORD
        clear hx2 hy2 hpx hpy
        generalize k % W = x at *
        generalize k / W = y at *
        have hx0i : (0 : Int) ≤ (x : Int) := by omega
        have hy0i : (0 : Int) ≤ (y : Int) := by omega
        have hx8i : (x : Int) < 8 := by omega
        have hy8i : (y : Int) < 8 := by omega
        have hm1 : ¬ n ≤ k := by omega
        have hm2 : ¬ ((k : Int) < 0) := by omega
        go_wp2_with (first | (go_at_call 125; refine (HPAR.out _).mono ?_; rintro e w1 ⟨rfl, hb1⟩; have r1 := keep_rowA hb1; have f1 := keep_frA hb1; have s1 := hb1.size; (try simp only [World.size_alloc, World.size_setCell, setRow_size, World.size_drew, size_drewNm] at r1 f1 s1)) | (go_at_call 116; refine (HORD.out _).mono ?_; rintro e w1 ⟨rfl, hb1⟩; have r1 := keep_rowA hb1; have f1 := keep_frA hb1; have s1 := hb1.size; (try simp only [World.size_alloc, World.size_setCell, setRow_size, World.size_drew, size_drewNm] at r1 f1 s1)) | (go_at_call 96; refine (HIS.out _ (by (go_simp <;> (intros; omega))) (by first | omega | (simp <;> omega))).mono ?_; rintro e w1 ⟨rfl, hb1⟩; have r1 := keep_rowA hb1; have f1 := keep_frA hb1; have s1 := hb1.size; (try simp only [World.size_alloc, World.size_setCell, setRow_size, World.size_drew, size_drewNm] at r1 f1 s1)) | (go_at_call 77; with_reducible refine (HXA.out _ ?_ ?_).mono ?_; (focus (go_simp <;> (intros; omega))); (focus (first | omega | (simp <;> omega))); rintro e w1 ⟨rfl, hb1⟩; have r_hb1 := keep_rowA hb1; have f_hb1 := keep_frA hb1; have s_hb1 := hb1.size; (try simp only [World.size_alloc, World.size_setCell, setRow_size, World.size_drew, size_drewNm] at r_hb1 f_hb1 s_hb1)) | (go_at_call 77; with_reducible refine (HXB.out _ ?_ ?_).mono ?_; (focus (go_simp <;> (intros; omega))); (focus (first | omega | (simp <;> omega))); rintro e w1 ⟨rfl, hb1⟩; have r_hb1 := keep_rowA hb1; have f_hb1 := keep_frA hb1; have s_hb1 := hb1.size; (try simp only [World.size_alloc, World.size_setCell, setRow_size, World.size_drew, size_drewNm] at r_hb1 f_hb1 s_hb1)))
        go_roundw
        case rel => first | exact ⟨k + 1, b, cap', by omega, by go_num, by rw [HN.out.2], by repeat' (first | with_reducible exact Below.refl _ _ | with_reducible assumption | with_reducible refine Below.drew ?_ | with_reducible refine Below.drewN ?_ _ | with_reducible refine Below.alloc ?_ ?_ _ | with_reducible refine Below.setCell ?_ ?_ _ | with_reducible refine Below.setRow ?_ ?_ _ | with_reducible refine below_step (by assumption) ?_ ?_ | (show (_ : Nat) ≤ _; first | omega | (simp <;> omega))), (by first | omega | (simp <;> omega)), by rw [HN.out.1, HN.out.2]; exact HOW.out _ (by repeat' (first | with_reducible exact Below.refl _ _ | with_reducible assumption | with_reducible refine Below.drew ?_ | with_reducible refine Below.drewN ?_ _ | with_reducible refine Below.alloc ?_ ?_ _ | with_reducible refine Below.setCell ?_ ?_ _ | with_reducible refine Below.setRow ?_ ?_ _ | with_reducible refine below_step (by assumption) ?_ ?_ | (show (_ : Nat) ≤ _; first | omega | (simp <;> omega)))), hbg, hb0', by go_simp <;> first | exact HOG.out | (intros; omega), by (go_simp <;> (intros; omega))⟩ | ((repeat (with_reducible apply Exists.intro)); refine And.intro ?_ ?_; rotate_left; focus ((repeat' (with_reducible apply And.intro)) <;> rfl); exact ⟨k + 1, b, cap', by omega, by go_num, by rw [HN.out.2], by repeat' (first | with_reducible exact Below.refl _ _ | with_reducible assumption | with_reducible refine Below.drew ?_ | with_reducible refine Below.drewN ?_ _ | with_reducible refine Below.alloc ?_ ?_ _ | with_reducible refine Below.setCell ?_ ?_ _ | with_reducible refine Below.setRow ?_ ?_ _ | with_reducible refine below_step (by assumption) ?_ ?_ | (show (_ : Nat) ≤ _; first | omega | (simp <;> omega))), (by first | omega | (simp <;> omega)), by rw [HN.out.1, HN.out.2]; exact HOW.out _ (by repeat' (first | with_reducible exact Below.refl _ _ | with_reducible assumption | with_reducible refine Below.drew ?_ | with_reducible refine Below.drewN ?_ _ | with_reducible refine Below.alloc ?_ ?_ _ | with_reducible refine Below.setCell ?_ ?_ _ | with_reducible refine Below.setRow ?_ ?_ _ | with_reducible refine below_step (by assumption) ?_ ?_ | (show (_ : Nat) ≤ _; first | omega | (simp <;> omega)))), hbg, hb0', by go_simp <;> first | exact HOG.out | (intros; omega), by (go_simp <;> (intros; omega))⟩)
        case measure => simp [intOf] <;> omega
      rw [h4] at hXB
      have HXB := Lib.hid hXB
      have HN := Lib.hid (prL_yes (a := a) (d := d) (W := W) (U := U) (k := k) (by rw [HU.out]; exact pairU_5 h1 h2 h3 (by rw [hx2, hy2]; exact h4)))
      have HPAR := HPAR0
      clear HPAR0 hXB h1 h2 h3 h4
      generalize ordI ((k % W : Nat) : Int) ((k / W : Nat) : Int) (ptX a d W k) (ptY a d W k) = od at *
      have HXY := Lib.hid (And.intro hx2 hy2)
      rw [hx2, hy2] at HPAR HIS HORD
      clear hx2 hy2 hpx hpy
      have e0 := HN.out.1
      have HN := Lib.hid (And.intro e0 HN.out.2)
      clear e0
      have HXY := Lib.hid (show ptX a d W k = (x2 : Int) ∧ ptY a d W k = (y2 : Int) from HXY.out)
      generalize k % W = x at *
      generalize k / W = y at *
      have hx0i : (0 : Int) ≤ (x : Int) := by omega
      have hy0i : (0 : Int) ≤ (y : Int) := by omega
      have hx8i : (x : Int) < 8 := by omega
      have hy8i : (y : Int) < 8 := by omega
      have hm1 : ¬ n ≤ k := by omega
      have hm2 : ¬ ((k : Int) < 0) := by omega
      go_wp2_with (first | (go_at_call 125; refine (HPAR.out _).mono ?_; rintro e w1 ⟨rfl, hb1⟩; have r1 := keep_rowA hb1; have f1 := keep_frA hb1; have s1 := hb1.size; (try simp only [World.size_alloc, World.size_setCell, setRow_size, World.size_drew, size_drewNm] at r1 f1 s1)) | (go_at_call 116; refine (HORD.out _).mono ?_; rintro e w1 ⟨rfl, hb1⟩; have r1 := keep_rowA hb1; have f1 := keep_frA hb1; have s1 := hb1.size; (try simp only [World.size_alloc, World.size_setCell, setRow_size, World.size_drew, size_drewNm] at r1 f1 s1)) | (go_at_call 96; refine (HIS.out _ (by (go_simp <;> (intros; omega))) (by first | omega | (simp <;> omega))).mono ?_; rintro e w1 ⟨rfl, hb1⟩; have r1 := keep_rowA hb1; have f1 := keep_frA hb1; have s1 := hb1.size; (try simp only [World.size_alloc, World.size_setCell, setRow_size, World.size_drew, size_drewNm] at r1 f1 s1)) | (go_at_call 77; with_reducible refine (HXA.out _ ?_ ?_).mono ?_; (focus (go_simp <;> (intros; omega))); (focus (first | omega | (simp <;> omega))); rintro e w1 ⟨rfl, hb1⟩; have r_hb1 := keep_rowA hb1; have f_hb1 := keep_frA hb1; have s_hb1 := hb1.size; (try simp only [World.size_alloc, World.size_setCell, setRow_size, World.size_drew, size_drewNm] at r_hb1 f_hb1 s_hb1)) | (go_at_call 77; with_reducible refine (HXB.out _ ?_ ?_).mono ?_; (focus (go_simp <;> (intros; omega))); (focus (first | omega | (simp <;> omega))); rintro e w1 ⟨rfl, hb1⟩; have r_hb1 := keep_rowA hb1; have f_hb1 := keep_frA hb1; have s_hb1 := hb1.size; (try simp only [World.size_alloc, World.size_setCell, setRow_size, World.size_drew, size_drewNm] at r_hb1 f_hb1 s_hb1)) | (at_builtin; refine wpList_append_at _ rfl _ _ 129 rfl w.heap.size 131 i0 z0 4 4 Try.underlying129 hi0 hz0 hs0 hbz0 hc0 (by decide) b cap' _ _ rfl (show World.ownsRow _ _ _ _ _ _ _ from HOW.out _ (by repeat' (first | with_reducible exact Below.refl _ _ | with_reducible assumption | with_reducible refine Below.drew ?_ | with_reducible refine Below.drewN ?_ _ | with_reducible refine Below.alloc ?_ ?_ _ | with_reducible refine Below.setCell ?_ ?_ _ | with_reducible refine Below.setRow ?_ ?_ _ | with_reducible refine below_step (by assumption) ?_ ?_ | (show (_ : Nat) ≤ _; first | omega | (simp <;> omega))))) ⟨_, 0, none⟩ 1 1 [.int .i8 x, .int .i8 y, .int .i8 x2, .int .i8 y2] rfl rfl ?c1 ?c2 ?c3 ?c4 ?c5 ?_))
      case c1 =>
        intro j u hj
        match j, hj with
        | 0, hj => simp at hj; subst hj; simp only [Addr.add]; go_simp
        | 1, hj => simp at hj; subst hj; simp only [Addr.add]; go_simp
        | 2, hj => simp at hj; subst hj; simp only [Addr.add]; go_simp
        | 3, hj => simp at hj; subst hj; simp only [Addr.add]; go_simp
      case c2 => intro u hu; simp at hu; rcases hu with rfl | rfl | rfl | rfl <;> rfl
      case c3 => unfold maxLen; omega
      case c4 => omega
      case c5 => first | omega | (simp <;> omega)
      intro b' cap2 w2 hown' hgrow hplace
      have hbw : w.heap.size ≤ b := owns_base HO.out b rfl
      have e5 := HN.out.1
      rw [HXY.out.1, HXY.out.2] at e5
      rw [← e5, ← HN.out.2] at hown'
      have hsz2 := hgrow.size
      have hbg2 : Below w.heap.size w w2 := below_grown (by repeat' (first | with_reducible exact Below.refl _ _ | with_reducible assumption | with_reducible refine Below.drew ?_ | with_reducible refine Below.drewN ?_ _ | with_reducible refine Below.alloc ?_ ?_ _ | with_reducible refine Below.setCell ?_ ?_ _ | with_reducible refine Below.setRow ?_ ?_ _ | with_reducible refine below_step (by assumption) ?_ ?_ | (show (_ : Nat) ≤ _; first | omega | (simp <;> omega)))) hgrow (fun q e => by cases e; exact hbw) (by first | omega | (simp <;> omega))
      have k1 := row_grown (q := g) hgrow (by first | omega | (simp <;> omega)) (fun e => hbg e.symm)
      have k2 := row_grown (q := w.heap.size) hgrow (by first | omega | (simp <;> omega)) (fun e => hb0' e.symm)
      have K1 := Lib.hid (show rowOf w2 g = rowOf ws g from k1.trans (by go_simp <;> first | exact HOG.out | (intros; omega)))
      have K2 := Lib.hid (show rowOf w2 w.heap.size = #[.int .i8 a, .bool d, .int .i8 q] from k2.trans (by (go_simp <;> (intros; omega))))
      have HB := Lib.hid hbg2
      have HW := Lib.hid hown'
      have hbl : b' ≠ g ∧ b' ≠ w.heap.size ∧ ws.heap.size ≤ w2.heap.size := by
        simp at hplace hsz2
        rcases hplace with h | h <;> omega
      clear k1 k2 hbg2 hown' hgrow hplace hsz2 e5
      go_wp2
      go_roundw
      case rel => first | exact ⟨k + 1, b', cap2, by omega, by go_num, by rw [HN.out.2], HB.out, hbl.2.2, HW.out, hbl.1, hbl.2.1, K1.out, K2.out⟩ | ((repeat (with_reducible apply Exists.intro)); refine And.intro ?_ ?_; rotate_left; focus ((repeat' (with_reducible apply And.intro)) <;> rfl); exact ⟨k + 1, b', cap2, by omega, by go_num, by rw [HN.out.2], HB.out, hbl.2.2, HW.out, hbl.1, hbl.2.1, K1.out, K2.out⟩)
      case measure => simp [intOf] <;> omega
    · have hke : k = n := by omega
      subst hke
      go_wp2
      go_ret
      exact ⟨_, rfl, HO.out, by repeat' (first | with_reducible exact Below.refl _ _ | with_reducible assumption | with_reducible refine Below.drew ?_ | with_reducible refine Below.drewN ?_ _ | with_reducible refine Below.alloc ?_ ?_ _ | with_reducible refine Below.setCell ?_ ?_ _ | with_reducible refine Below.setRow ?_ ?_ _ | with_reducible refine below_step (by assumption) ?_ ?_ | (show (_ : Nat) ≤ _; first | omega | (simp <;> omega)))⟩
end Go.Proofs.Ytbnhhjjhjjmmjaa
