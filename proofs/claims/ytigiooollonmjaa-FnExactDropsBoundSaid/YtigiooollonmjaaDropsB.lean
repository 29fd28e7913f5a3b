/- The least number of drops of a picture, in both. -/
import Derived.Test.YtigiooollonmjaaInks
import Derived.BigQuiet
namespace Go.Proofs.Ytigiooollonmjaa
open Go.RowKit
set_option linter.unusedVariables false
set_option linter.unusedSimpArgs false
set_option maxRecDepth 100000
/-- How many of the first n cells aren't white. -/
def cntA (c : Nat → Int) (W : Nat) (n : Nat) : Int := sumTo (fun k => if 0 < pF c W k then 1 else 0) n
theorem cntA_yes {c : Nat → Int} {W : Nat} {n : Nat} (h : 0 < pF c W n) : cntA c W (n + 1) = cntA c W n + 1 := by
  show sumTo _ n + (if 0 < pF c W n then 1 else 0) = _
  rw [if_pos h]; rfl
theorem cntA_no {c : Nat → Int} {W : Nat} {n : Nat} (h : ¬ 0 < pF c W n) : cntA c W (n + 1) = cntA c W n := by
  show sumTo _ n + (if 0 < pF c W n then 1 else 0) = _
  rw [if_neg h, Int.add_zero]; rfl
theorem cntA_in (c : Nat → Int) (W : Nat) (n : Nat) : 0 ≤ cntA c W n ∧ cntA c W n ≤ n := by
  have := sumTo_in (fun k => if 0 < pF c W k then 1 else 0) 0 1 n (fun k _ => by show 0 ≤ (if _ then (1 : Int) else 0) ∧ (if _ then (1 : Int) else 0) ≤ 1; split <;> omega)
  unfold cntA; omega
theorem cntA_sum {c : Nat → Int} {W n : Nat} (h : ∀ k, k < n → 0 ≤ pF c W k ∧ pF c W k ≤ 3) : cntA c W n = cnt c W 1 n + cnt c W 2 n + cnt c W 3 n := by
  induction n with
  | zero => rfl
  | succ n ih =>
    have ih := ih (fun k hk => h k (by omega))
    have ⟨h0, h1⟩ := h n (by omega)
    rcases four h0 h1 with hv | hv | hv | hv
    · rw [cntA_no (by omega), cnt_no (by omega), cnt_no (by omega), cnt_no (by omega), ih]
    · rw [cntA_yes (by omega), cnt_yes hv, cnt_no (by omega), cnt_no (by omega), ih]; omega
    · rw [cntA_yes (by omega), cnt_no (by omega), cnt_yes hv, cnt_no (by omega), ih]; omega
    · rw [cntA_yes (by omega), cnt_no (by omega), cnt_no (by omega), cnt_yes hv, ih]; omega
def LeftR (c : Nat → Int) (W n : Nat) (w0 w1 : World) (i s : Value) (wr : World) : Prop := ∃ k : Nat, k ≤ n ∧ i = .int .i64 k ∧ s = .int .i64 (cntA c W k) ∧ Below w0.heap.size w0 wr ∧ Below w1.heap.size w1 wr
set_option maxHeartbeats 2000000 in
theorem l07Left_any (p q : Nat) (c : Nat → Int) (hf : FitPicture c) (W H : Nat) (hW : c 0 = W) (hH : c 1 = H) (W0 : 0 < W) (H0 : 0 < H) (W8 : W ≤ 8) (H8 : H ≤ 8) (w : World) (hr : rowOf w p = kc pk 66 c) (hp : p < w.heap.size) (hqr : ∀ j, j < 64 → (rowOf w q)[j]? = some (.bool false)) (hq : q < w.heap.size) :
    Calls Try.prog 95 #[.pointer (some ⟨p, 0, none⟩), .pointer (some ⟨q, 0, none⟩)] w fun e w' => e = .returned (.int .i64 (cntA c W (H * W))) ∧ Below w.heap.size w w' := by
  have hn0 : 0 < H * W := Nat.mul_pos H0 W0
  have hnb : H * W ≤ 8 * W := Nat.mul_le_mul_right _ H8
  have hnb2 : H * W ≤ 64 := by omega
  have HQ := Lib.hid hqr
  clear hqr
  generalize hn : H * W = n at *
  go_enter Try.func95, Try.ntmps95
  go_wp2_with (go_at_call 91; refine (l07Spots_any _ c hf W H hW hH W8 H8 _ (by (go_simp <;> (intros; omega))) (by first | omega | (simp <;> omega))).mono ?_; rintro e w1 ⟨v, rfl, hown, hb1⟩; rw [hn] at hown; obtain ⟨g, cap, rfl, hg, hgs, hcells⟩ := owns_some hown hn0; have HC := Lib.hid hcells; have HO := Lib.hid hown; clear hown hcells)
  go_loopw [7, 5] (fun i s wr => LeftR c W n w w1 i s wr) (fun i s wr => n - (intOf i).toNat)
  case atStart => exact ⟨0, by omega, rfl, rfl, by repeat' (first | with_reducible exact Below.refl _ _ | with_reducible assumption | with_reducible refine Below.drew ?_ | with_reducible refine Below.drewN ?_ _ | with_reducible refine Below.alloc ?_ ?_ _ | with_reducible refine Below.setCell ?_ ?_ _ | with_reducible refine Below.setRow ?_ ?_ _ | with_reducible refine below_step (by assumption) ?_ ?_ | (show (_ : Nat) ≤ _; first | omega | (simp <;> omega))), Below.refl _ _⟩
  case round =>
    obtain ⟨k, hk, rfl, rfl, hb, hb2⟩ := hrel
    have hrw : rowOf wr p = kc pk 66 c := (keep_row hb hp).trans hr
    have hpw : p < wr.heap.size := Nat.lt_of_lt_of_le hp hb.size
    have hqw : q < wr.heap.size := Nat.lt_of_lt_of_le hq hb.size
    have hrq : rowOf wr q = rowOf w q := keep_row hb hq
    have hsz2 := hb2.size
    have hsz1 := hb.size
    have hgr : rowOf wr g = rowOf w1 g := keep_row hb2 hgs
    have hgw : g < wr.heap.size := Nat.lt_of_lt_of_le hgs hb2.size
    by_cases hlt : k < n
    · obtain ⟨c1, c2⟩ := spots_drop W n k hlt
      have r1 := hgr ▸ HC.out _ _ c1
      have r2 := hgr ▸ HC.out _ _ c2
      obtain ⟨hx8, hy8, -, -⟩ := cell_at (k := k) W0 W8 H8 (by omega)
      have r3 := hrq ▸ HQ.out (k / W * 8 + k % W) (by omega)
      have hci := cntA_in c W k
      by_cases hv : 0 < c (2 + k / W * 8 + k % W)
      · have HN := Lib.hid (cntA_yes (n := k) hv)
        clear c1 c2 hgr hrq
        generalize k % W = x at *
        generalize k / W = y at *
        generalize cntA c W k = S at hci HN ⊢
        have hd : decide (0 < c (2 + y * 8 + x)) = true := decide_eq_true hv
        go_wp2
        go_quiet (fail)
        go_wp2
        go_roundw
        case rel => first | exact ⟨k + 1, by omega, by go_num, by rw [HN.out], by repeat' (first | with_reducible exact Below.refl _ _ | with_reducible assumption | with_reducible refine Below.drew ?_ | with_reducible refine Below.drewN ?_ _ | with_reducible refine Below.alloc ?_ ?_ _ | with_reducible refine Below.setCell ?_ ?_ _ | with_reducible refine Below.setRow ?_ ?_ _ | with_reducible refine below_step (by assumption) ?_ ?_ | (show (_ : Nat) ≤ _; first | omega | (simp <;> omega))), by repeat' (first | with_reducible exact Below.refl _ _ | with_reducible assumption | with_reducible refine Below.drew ?_ | with_reducible refine Below.drewN ?_ _ | with_reducible refine Below.alloc ?_ ?_ _ | with_reducible refine Below.setCell ?_ ?_ _ | with_reducible refine Below.setRow ?_ ?_ _ | with_reducible refine below_step (by assumption) ?_ ?_ | (show (_ : Nat) ≤ _; first | omega | (simp <;> omega)))⟩ | ((repeat (with_reducible apply Exists.intro)); refine And.intro ?_ ?_; rotate_left; focus ((repeat' (with_reducible apply And.intro)) <;> rfl); exact ⟨k + 1, by omega, by go_num, by rw [HN.out], by repeat' (first | with_reducible exact Below.refl _ _ | with_reducible assumption | with_reducible refine Below.drew ?_ | with_reducible refine Below.drewN ?_ _ | with_reducible refine Below.alloc ?_ ?_ _ | with_reducible refine Below.setCell ?_ ?_ _ | with_reducible refine Below.setRow ?_ ?_ _ | with_reducible refine below_step (by assumption) ?_ ?_ | (show (_ : Nat) ≤ _; first | omega | (simp <;> omega))), by repeat' (first | with_reducible exact Below.refl _ _ | with_reducible assumption | with_reducible refine Below.drew ?_ | with_reducible refine Below.drewN ?_ _ | with_reducible refine Below.alloc ?_ ?_ _ | with_reducible refine Below.setCell ?_ ?_ _ | with_reducible refine Below.setRow ?_ ?_ _ | with_reducible refine below_step (by assumption) ?_ ?_ | (show (_ : Nat) ≤ _; first | omega | (simp <;> omega)))⟩)
        case measure => simp [intOf]; omega
      · have HN := Lib.hid (cntA_no (n := k) hv)
        clear c1 c2 hgr hrq
        generalize k % W = x at *
        generalize k / W = y at *
        generalize cntA c W k = S at hci HN ⊢
        have hd : decide (0 < c (2 + y * 8 + x)) = false := decide_eq_false hv
        go_wp2
        go_quiet (fail)
        go_wp2
        go_roundw
        case rel => first | exact ⟨k + 1, by omega, by go_num, by rw [HN.out], by repeat' (first | with_reducible exact Below.refl _ _ | with_reducible assumption | with_reducible refine Below.drew ?_ | with_reducible refine Below.drewN ?_ _ | with_reducible refine Below.alloc ?_ ?_ _ | with_reducible refine Below.setCell ?_ ?_ _ | with_reducible refine Below.setRow ?_ ?_ _ | with_reducible refine below_step (by assumption) ?_ ?_ | (show (_ : Nat) ≤ _; first | omega | (simp <;> omega))), by repeat' (first | with_reducible exact Below.refl _ _ | with_reducible assumption | with_reducible refine Below.drew ?_ | with_reducible refine Below.drewN ?_ _ | with_reducible refine Below.alloc ?_ ?_ _ | with_reducible refine Below.setCell ?_ ?_ _ | with_reducible refine Below.setRow ?_ ?_ _ | with_reducible refine below_step (by assumption) ?_ ?_ | (show (_ : Nat) ≤ _; first | omega | (simp <;> omega)))⟩ | ((repeat (with_reducible apply Exists.intro)); refine And.intro ?_ ?_; rotate_left; focus ((repeat' (with_reducible apply And.intro)) <;> rfl); exact ⟨k + 1, by omega, by go_num, by rw [HN.out], by repeat' (first | with_reducible exact Below.refl _ _ | with_reducible assumption | with_reducible refine Below.drew ?_ | with_reducible refine Below.drewN ?_ _ | with_reducible refine Below.alloc ?_ ?_ _ | with_reducible refine Below.setCell ?_ ?_ _ | with_reducible refine Below.setRow ?_ ?_ _ | with_reducible refine below_step (by assumption) ?_ ?_ | (show (_ : Nat) ≤ _; first | omega | (simp <;> omega))), by repeat' (first | with_reducible exact Below.refl _ _ | with_reducible assumption | with_reducible refine Below.drew ?_ | with_reducible refine Below.drewN ?_ _ | with_reducible refine Below.alloc ?_ ?_ _ | with_reducible refine Below.setCell ?_ ?_ _ | with_reducible refine Below.setRow ?_ ?_ _ | with_reducible refine below_step (by assumption) ?_ ?_ | (show (_ : Nat) ≤ _; first | omega | (simp <;> omega)))⟩)
        case measure => simp [intOf]; omega
    · have hke : k = n := by omega
      subst hke
      go_wp2
      go_ret
      exact ⟨rfl, by repeat' (first | with_reducible exact Below.refl _ _ | with_reducible assumption | with_reducible refine Below.drew ?_ | with_reducible refine Below.drewN ?_ _ | with_reducible refine Below.alloc ?_ ?_ _ | with_reducible refine Below.setCell ?_ ?_ _ | with_reducible refine Below.setRow ?_ ?_ _ | with_reducible refine below_step (by assumption) ?_ ?_ | (show (_ : Nat) ≤ _; first | omega | (simp <;> omega)))⟩
theorem l00Max_k (a b : Int) (w : World) : Calls Try.prog 96 #[.int .i64 a, .int .i64 b] w fun e w' => e = .returned (.int .i64 (if b < a then a else b)) ∧ w = w' := by
  by_cases h : b < a
  all_goals
    go_enter Try.func96, Try.ntmps96
    go_wp2
    go_ret
    exact ⟨by simp [h], rfl⟩
theorem row_false (w : World) (e : TypeId) (row : Array Value) (h : row = (List.replicate 64 (Value.bool false)).toArray) : ∀ j, j < 64 → (rowOf (w.alloc (.cells row e)) w.heap.size)[j]? = some (.bool false) := by
  intro j hj
  have hr : rowOf (w.alloc (.cells row e)) w.heap.size = row := by go_simp
  rw [hr, h, List.getElem?_toArray, List.getElem?_replicate, if_pos hj]
noncomputable def dropsR (c : Nat → Int) : Int :=
  if okP c = true then (if ((cnt c (c 0).toNat 1 ((c 1).toNat * (c 0).toNat) + cnt c (c 0).toNat 2 ((c 1).toNat * (c 0).toNat) + cnt c (c 0).toNat 3 ((c 1).toNat * (c 0).toNat)) + 4) / 5 < (inkC c : Int) then (inkC c : Int) else ((cnt c (c 0).toNat 1 ((c 1).toNat * (c 0).toNat) + cnt c (c 0).toNat 2 ((c 1).toNat * (c 0).toNat) + cnt c (c 0).toNat 3 ((c 1).toNat * (c 0).toNat)) + 4) / 5) else 0
theorem dropsR_yes {c : Nat → Int} {W H : Nat} (ho : okP c = true) (hW : c 0 = W) (hH : c 1 = H) : dropsR c = if ((cnt c W 1 (H * W) + cnt c W 2 (H * W) + cnt c W 3 (H * W)) + 4) / 5 < (inkN (fun j : Nat => cnt c W ((j : Int) + 1) (H * W)) 3 : Int) then (inkN (fun j : Nat => cnt c W ((j : Int) + 1) (H * W)) 3 : Int) else ((cnt c W 1 (H * W) + cnt c W 2 (H * W) + cnt c W 3 (H * W)) + 4) / 5 := by
  unfold dropsR; rw [if_pos ho, inkC_yes ho, inkFn_is hW hH, hW, hH, Int.toNat_natCast, Int.toNat_natCast]
set_option maxHeartbeats 2000000 in
theorem sDropsBound_any (c : Nat → Int) (hf : FitPicture c) (w : World) : Calls Try.prog 38 #[.agg (kc pk 66 c)] w fun e w' => e = .returned (.tuple #[.int .i64 (dropsR c), .int .i64 (askB (okP c) true true)]) ∧ Below w.heap.size w w' := by
  have hO := fun p w hr hp => l07Ok_any p c hf w hr hp
  rcases Bool.eq_false_or_eq_true (okP c) with ho | ho
  · obtain ⟨W, H, hW, hH, W0, H0, W8, H8⟩ := okP_sides ho
    have hL := fun p q w hr hp hqr hq => l07Left_any p q c hf W H hW hH W0 H0 W8 H8 w hr hp hqr hq
    have hA : cntA c W (H * W) = cnt c W 1 (H * W) + cnt c W 2 (H * W) + cnt c W 3 (H * W) := cntA_sum (fun k hk => by
      obtain ⟨hx8, hy8, -, -⟩ := cell_at (k := k) W0 W8 H8 hk
      exact ⟨(hf.cell (2 + k / W * 8 + k % W) (by omega) (by omega)).1, okP_cell ho hx8 hy8⟩)
    have hbA := cntA_in c W (H * W)
    have hnb : H * W ≤ 64 := by have := Nat.mul_le_mul H8 W8; omega
    have hS := fun p w hr hp => l07Inks_any p c hf W H hW hH W0 H0 W8 H8 w hr hp
    have hk3 := inkN_le (fun j : Nat => cnt c W ((j : Int) + 1) (H * W)) 3
    rw [dropsR_yes ho hW hH, ← hA]
    clear hA
    generalize inkL (fun j : Nat => cnt c W ((j : Int) + 1) (H * W)) 3 = L at hS
    generalize inkN (fun j : Nat => cnt c W ((j : Int) + 1) (H * W)) 3 = K at hS hk3 ⊢
    generalize cntA c W (H * W) = S at hL hbA ⊢
    simp only [ho] at hO ⊢
    have HO := Lib.hid hO
    have HS := Lib.hid hS
    have HL := Lib.hid hL
    clear hO ho hS hL hW hH
    have hS64 : 0 ≤ S ∧ S ≤ 64 := by omega
    clear hbA hnb
    go_enter Try.func38, Try.ntmps38
    go_wp2_with (first | (go_at_call 84; refine (HO.out _ _ (by (go_simp <;> (intros; omega))) (by first | omega | (simp <;> omega))).mono ?_; rintro e w1 ⟨rfl, hb1⟩; have r1 := keep_rowA hb1; have f1 := keep_frA hb1; have s1 := hb1.size; (try simp only [World.size_alloc, World.size_setCell, setRow_size, World.size_drew] at r1 f1 s1)) | (go_at_call 95; refine (HL.out _ _ _ (by (go_simp <;> (intros; omega))) (by first | omega | (simp <;> omega)) (row_false _ _ _ rfl) (by first | omega | (simp <;> omega))).mono ?_; rintro e w1 ⟨rfl, hb1⟩; have r1 := keep_rowA hb1; have f1 := keep_frA hb1; have s1 := hb1.size; (try simp only [World.size_alloc, World.size_setCell, setRow_size, World.size_drew] at r1 f1 s1)) | (go_at_call 96; refine (l00Max_k _ _ _).mono ?_; rintro e w1 ⟨rfl, rfl⟩) | (go_at_call 97; refine (HS.out _ _ (by (go_simp <;> (intros; omega))) (by first | omega | (simp <;> omega))).mono ?_; rintro e w2 ⟨v, rfl, hown, hb2⟩; have r_hb2 := keep_rowA hb2; have f_hb2 := keep_frA hb2; have s_hb2 := hb2.size; (try simp only [World.size_alloc, World.size_setCell, setRow_size, World.size_drew] at r_hb2 f_hb2 s_hb2); obtain ⟨a, cap, rfl⟩ := owns_len hown; clear hown))
    all_goals
      refine bodyPost_ret (v := .tuple #[.int .i64 _, .int .i64 0]) (res_tt rfl rfl rfl) rfl ⟨rfl, by repeat' (first | with_reducible exact Below.refl _ _ | with_reducible assumption | with_reducible refine Below.drew ?_ | with_reducible refine Below.drewN ?_ _ | with_reducible refine Below.alloc ?_ ?_ _ | with_reducible refine Below.setCell ?_ ?_ _ | with_reducible refine Below.setRow ?_ ?_ _ | with_reducible refine below_step (by assumption) ?_ ?_ | (show (_ : Nat) ≤ _; first | omega | (simp <;> omega)))⟩
  · rw [show dropsR c = 0 from if_neg (by simp [ho])]
    simp only [ho] at hO ⊢
    have HO := Lib.hid hO
    clear hO ho
    go_enter Try.func38, Try.ntmps38
    go_wp2_with ((go_at_call 84; refine (HO.out _ _ (by (go_simp <;> (intros; omega))) (by first | omega | (simp <;> omega))).mono ?_; rintro e w1 ⟨rfl, hb1⟩; have r1 := keep_rowA hb1; have f1 := keep_frA hb1; have s1 := hb1.size; (try simp only [World.size_alloc, World.size_setCell, setRow_size, World.size_drew] at r1 f1 s1)))
    refine bodyPost_ret (v := .tuple #[.int .i64 0, .int .i64 1]) (res_tt rfl rfl rfl) rfl ⟨rfl, by repeat' (first | with_reducible exact Below.refl _ _ | with_reducible assumption | with_reducible refine Below.drew ?_ | with_reducible refine Below.drewN ?_ _ | with_reducible refine Below.alloc ?_ ?_ _ | with_reducible refine Below.setCell ?_ ?_ _ | with_reducible refine Below.setRow ?_ ?_ _ | with_reducible refine below_step (by assumption) ?_ ?_ | (show (_ : Nat) ≤ _; first | omega | (simp <;> omega)))⟩
/-- What is known at the head of a round of the program's own loop. -/
def DropR (f : Nat → Int) (w : World) (i s t : Value) (wr : World) : Prop := ∃ k : Nat, k ≤ 3 ∧ i = .int .i64 k ∧ s = .int .i64 (inkN f k : Nat) ∧ t = .int .i64 (sumTo f k) ∧ Below w.heap.size w wr
set_option maxHeartbeats 2000000 in
theorem iDropsBound_any (c : Nat → Int) (hf : FitPicture c) (w : World) : Calls Try.prog 39 #[.agg (kc pk 66 c)] w fun e w' => e = .returned (.tuple #[.int .i64 (dropsR c), .int .i64 (askB (okP c) true true)]) ∧ Below w.heap.size w w' := by
  have hO := fun p w hr hp => pcode_any p c hf true w hr hp
  rcases Bool.eq_false_or_eq_true (okP c) with ho | ho
  · obtain ⟨W, H, hW, hH, W0, H0, W8, H8⟩ := okP_sides ho
    have hS := fun p w hr hp => counts_any p c hf ho W H hW hH W0 H0 W8 H8 w hr hp
    rw [dropsR_yes ho hW hH]
    have hnb : H * W ≤ 64 := by have := Nat.mul_le_mul H8 W8; omega
    generalize H * W = n at hS hnb ⊢
    have hc1 := cnt_in c W 1 n
    have hc2 := cnt_in c W 2 n
    have hc3 := cnt_in c W 3 n
    have hk0 : inkN (fun j : Nat => cnt c W ((j : Int) + 1) n) 0 = 0 := rfl
    have hk1 := inkN_le (fun j : Nat => cnt c W ((j : Int) + 1) n) 1
    have hk2 := inkN_le (fun j : Nat => cnt c W ((j : Int) + 1) n) 2
    have hk3 := inkN_le (fun j : Nat => cnt c W ((j : Int) + 1) n) 3
    have hs0 : sumTo (fun j : Nat => cnt c W ((j : Int) + 1) n) 0 = 0 := rfl
    have hs1 : sumTo (fun j : Nat => cnt c W ((j : Int) + 1) n) 1 = cnt c W 1 n := by simp [sumTo]
    have hs2 : sumTo (fun j : Nat => cnt c W ((j : Int) + 1) n) 2 = cnt c W 1 n + cnt c W 2 n := by simp [sumTo]
    have hs3 : sumTo (fun j : Nat => cnt c W ((j : Int) + 1) n) 3 = cnt c W 1 n + cnt c W 2 n + cnt c W 3 n := by simp [sumTo]
    simp only [ho] at hO ⊢
    have HO := Lib.hid hO
    have HS := Lib.hid hS
    clear hO ho hS hW hH
    go_enter Try.func39, Try.ntmps39
    go_wp2_with (first | (go_at_call 88; refine (HO.out _ _ (by (go_simp <;> (intros; omega))) (by first | omega | (simp <;> omega))).mono ?_; rintro e w1 ⟨rfl, hb1⟩; have r1 := keep_rowA hb1; have f1 := keep_frA hb1; have s1 := hb1.size; (try simp only [World.size_alloc, World.size_setCell, setRow_size, World.size_drew] at r1 f1 s1)) | (go_at_call 90; refine (HS.out _ _ (by (go_simp <;> (intros; omega))) (by first | omega | (simp <;> omega))).mono ?_; rintro e w1 ⟨rfl, hb1⟩; have r1 := keep_rowA hb1; have f1 := keep_frA hb1; have s1 := hb1.size; (try simp only [World.size_alloc, World.size_setCell, setRow_size, World.size_drew] at r1 f1 s1)))
    clear HO
    go_loopw [14, 5, 6] (fun i s t wr => DropR (fun j : Nat => cnt c W ((j : Int) + 1) n) w i s t wr) (fun i s t wr => 3 - (intOf i).toNat)
    case atStart => exact ⟨0, by omega, rfl, rfl, rfl, by repeat' (first | with_reducible exact Below.refl _ _ | with_reducible assumption | with_reducible refine Below.drew ?_ | with_reducible refine Below.drewN ?_ _ | with_reducible refine Below.alloc ?_ ?_ _ | with_reducible refine Below.setCell ?_ ?_ _ | with_reducible refine Below.setRow ?_ ?_ _ | with_reducible refine below_step (by assumption) ?_ ?_ | (show (_ : Nat) ≤ _; first | omega | (simp <;> omega)))⟩
    case round =>
      obtain ⟨k, hk, rfl, rfl, rfl, hb⟩ := hrel
      rcases (show k = 0 ∨ k = 1 ∨ k = 2 ∨ k = 3 by omega) with rfl | rfl | rfl | rfl
      · by_cases hv : 0 < cnt c W 1 n
        · have hd : decide (0 < cnt c W 1 n) = true := decide_eq_true hv
          have HN := Lib.hid (show inkN (fun j : Nat => cnt c W ((j : Int) + 1) n) 1 = inkN (fun j : Nat => cnt c W ((j : Int) + 1) n) 0 + 1 from (ink_yes (f := fun j : Nat => cnt c W ((j : Int) + 1) n) (n := 0) (by simpa using hv)).2)
          clear hv
          go_wp2
          go_roundw
          case rel => first | exact ⟨1, by omega, by go_num, by rw [HN.out]; go_num, by rw [hs1], by repeat' (first | with_reducible exact Below.refl _ _ | with_reducible assumption | with_reducible refine Below.drew ?_ | with_reducible refine Below.drewN ?_ _ | with_reducible refine Below.alloc ?_ ?_ _ | with_reducible refine Below.setCell ?_ ?_ _ | with_reducible refine Below.setRow ?_ ?_ _ | with_reducible refine below_step (by assumption) ?_ ?_ | (show (_ : Nat) ≤ _; first | omega | (simp <;> omega)))⟩ | ((repeat (with_reducible apply Exists.intro)); refine And.intro ?_ ?_; rotate_left; focus ((repeat' (with_reducible apply And.intro)) <;> rfl); exact ⟨1, by omega, by go_num, by rw [HN.out]; go_num, by rw [hs1], by repeat' (first | with_reducible exact Below.refl _ _ | with_reducible assumption | with_reducible refine Below.drew ?_ | with_reducible refine Below.drewN ?_ _ | with_reducible refine Below.alloc ?_ ?_ _ | with_reducible refine Below.setCell ?_ ?_ _ | with_reducible refine Below.setRow ?_ ?_ _ | with_reducible refine below_step (by assumption) ?_ ?_ | (show (_ : Nat) ≤ _; first | omega | (simp <;> omega)))⟩)
          case measure => simp [intOf]
        · have hd : decide (0 < cnt c W 1 n) = false := decide_eq_false hv
          have HN := Lib.hid (show inkN (fun j : Nat => cnt c W ((j : Int) + 1) n) 1 = inkN (fun j : Nat => cnt c W ((j : Int) + 1) n) 0 from (ink_no (f := fun j : Nat => cnt c W ((j : Int) + 1) n) (n := 0) (by simpa using hv)).2)
          clear hv
          go_wp2
          go_roundw
          case rel => first | exact ⟨1, by omega, by go_num, by rw [HN.out], by rw [hs1], by repeat' (first | with_reducible exact Below.refl _ _ | with_reducible assumption | with_reducible refine Below.drew ?_ | with_reducible refine Below.drewN ?_ _ | with_reducible refine Below.alloc ?_ ?_ _ | with_reducible refine Below.setCell ?_ ?_ _ | with_reducible refine Below.setRow ?_ ?_ _ | with_reducible refine below_step (by assumption) ?_ ?_ | (show (_ : Nat) ≤ _; first | omega | (simp <;> omega)))⟩ | ((repeat (with_reducible apply Exists.intro)); refine And.intro ?_ ?_; rotate_left; focus ((repeat' (with_reducible apply And.intro)) <;> rfl); exact ⟨1, by omega, by go_num, by rw [HN.out], by rw [hs1], by repeat' (first | with_reducible exact Below.refl _ _ | with_reducible assumption | with_reducible refine Below.drew ?_ | with_reducible refine Below.drewN ?_ _ | with_reducible refine Below.alloc ?_ ?_ _ | with_reducible refine Below.setCell ?_ ?_ _ | with_reducible refine Below.setRow ?_ ?_ _ | with_reducible refine below_step (by assumption) ?_ ?_ | (show (_ : Nat) ≤ _; first | omega | (simp <;> omega)))⟩)
          case measure => simp [intOf]
      · by_cases hv : 0 < cnt c W 2 n
        · have hd : decide (0 < cnt c W 2 n) = true := decide_eq_true hv
          have HN := Lib.hid (show inkN (fun j : Nat => cnt c W ((j : Int) + 1) n) 2 = inkN (fun j : Nat => cnt c W ((j : Int) + 1) n) 1 + 1 from (ink_yes (f := fun j : Nat => cnt c W ((j : Int) + 1) n) (n := 1) (by simpa using hv)).2)
          clear hv
          go_wp2
          go_roundw
          case rel => first | exact ⟨2, by omega, by go_num, by rw [HN.out]; go_num, by rw [hs2], by repeat' (first | with_reducible exact Below.refl _ _ | with_reducible assumption | with_reducible refine Below.drew ?_ | with_reducible refine Below.drewN ?_ _ | with_reducible refine Below.alloc ?_ ?_ _ | with_reducible refine Below.setCell ?_ ?_ _ | with_reducible refine Below.setRow ?_ ?_ _ | with_reducible refine below_step (by assumption) ?_ ?_ | (show (_ : Nat) ≤ _; first | omega | (simp <;> omega)))⟩ | ((repeat (with_reducible apply Exists.intro)); refine And.intro ?_ ?_; rotate_left; focus ((repeat' (with_reducible apply And.intro)) <;> rfl); exact ⟨2, by omega, by go_num, by rw [HN.out]; go_num, by rw [hs2], by repeat' (first | with_reducible exact Below.refl _ _ | with_reducible assumption | with_reducible refine Below.drew ?_ | with_reducible refine Below.drewN ?_ _ | with_reducible refine Below.alloc ?_ ?_ _ | with_reducible refine Below.setCell ?_ ?_ _ | with_reducible refine Below.setRow ?_ ?_ _ | with_reducible refine below_step (by assumption) ?_ ?_ | (show (_ : Nat) ≤ _; first | omega | (simp <;> omega)))⟩)
          case measure => simp [intOf]
        · have hd : decide (0 < cnt c W 2 n) = false := decide_eq_false hv
          have HN := Lib.hid (show inkN (fun j : Nat => cnt c W ((j : Int) + 1) n) 2 = inkN (fun j : Nat => cnt c W ((j : Int) + 1) n) 1 from (ink_no (f := fun j : Nat => cnt c W ((j : Int) + 1) n) (n := 1) (by simpa using hv)).2)
          clear hv
          go_wp2
          go_roundw
          case rel => first | exact ⟨2, by omega, by go_num, by rw [HN.out], by rw [hs2], by repeat' (first | with_reducible exact Below.refl _ _ | with_reducible assumption | with_reducible refine Below.drew ?_ | with_reducible refine Below.drewN ?_ _ | with_reducible refine Below.alloc ?_ ?_ _ | with_reducible refine Below.setCell ?_ ?_ _ | with_reducible refine Below.setRow ?_ ?_ _ | with_reducible refine below_step (by assumption) ?_ ?_ | (show (_ : Nat) ≤ _; first | omega | (simp <;> omega)))⟩ | ((repeat (with_reducible apply Exists.intro)); refine And.intro ?_ ?_; rotate_left; focus ((repeat' (with_reducible apply And.intro)) <;> rfl); exact ⟨2, by omega, by go_num, by rw [HN.out], by rw [hs2], by repeat' (first | with_reducible exact Below.refl _ _ | with_reducible assumption | with_reducible refine Below.drew ?_ | with_reducible refine Below.drewN ?_ _ | with_reducible refine Below.alloc ?_ ?_ _ | with_reducible refine Below.setCell ?_ ?_ _ | with_reducible refine Below.setRow ?_ ?_ _ | with_reducible refine below_step (by assumption) ?_ ?_ | (show (_ : Nat) ≤ _; first | omega | (simp <;> omega)))⟩)
          case measure => simp [intOf]
      · by_cases hv : 0 < cnt c W 3 n
        · have hd : decide (0 < cnt c W 3 n) = true := decide_eq_true hv
          have HN := Lib.hid (show inkN (fun j : Nat => cnt c W ((j : Int) + 1) n) 3 = inkN (fun j : Nat => cnt c W ((j : Int) + 1) n) 2 + 1 from (ink_yes (f := fun j : Nat => cnt c W ((j : Int) + 1) n) (n := 2) (by simpa using hv)).2)
          clear hv
          go_wp2
          go_roundw
          case rel => first | exact ⟨3, by omega, by go_num, by rw [HN.out]; go_num, by rw [hs3], by repeat' (first | with_reducible exact Below.refl _ _ | with_reducible assumption | with_reducible refine Below.drew ?_ | with_reducible refine Below.drewN ?_ _ | with_reducible refine Below.alloc ?_ ?_ _ | with_reducible refine Below.setCell ?_ ?_ _ | with_reducible refine Below.setRow ?_ ?_ _ | with_reducible refine below_step (by assumption) ?_ ?_ | (show (_ : Nat) ≤ _; first | omega | (simp <;> omega)))⟩ | ((repeat (with_reducible apply Exists.intro)); refine And.intro ?_ ?_; rotate_left; focus ((repeat' (with_reducible apply And.intro)) <;> rfl); exact ⟨3, by omega, by go_num, by rw [HN.out]; go_num, by rw [hs3], by repeat' (first | with_reducible exact Below.refl _ _ | with_reducible assumption | with_reducible refine Below.drew ?_ | with_reducible refine Below.drewN ?_ _ | with_reducible refine Below.alloc ?_ ?_ _ | with_reducible refine Below.setCell ?_ ?_ _ | with_reducible refine Below.setRow ?_ ?_ _ | with_reducible refine below_step (by assumption) ?_ ?_ | (show (_ : Nat) ≤ _; first | omega | (simp <;> omega)))⟩)
          case measure => simp [intOf]
        · have hd : decide (0 < cnt c W 3 n) = false := decide_eq_false hv
          have HN := Lib.hid (show inkN (fun j : Nat => cnt c W ((j : Int) + 1) n) 3 = inkN (fun j : Nat => cnt c W ((j : Int) + 1) n) 2 from (ink_no (f := fun j : Nat => cnt c W ((j : Int) + 1) n) (n := 2) (by simpa using hv)).2)
          clear hv
          go_wp2
          go_roundw
          case rel => first | exact ⟨3, by omega, by go_num, by rw [HN.out], by rw [hs3], by repeat' (first | with_reducible exact Below.refl _ _ | with_reducible assumption | with_reducible refine Below.drew ?_ | with_reducible refine Below.drewN ?_ _ | with_reducible refine Below.alloc ?_ ?_ _ | with_reducible refine Below.setCell ?_ ?_ _ | with_reducible refine Below.setRow ?_ ?_ _ | with_reducible refine below_step (by assumption) ?_ ?_ | (show (_ : Nat) ≤ _; first | omega | (simp <;> omega)))⟩ | ((repeat (with_reducible apply Exists.intro)); refine And.intro ?_ ?_; rotate_left; focus ((repeat' (with_reducible apply And.intro)) <;> rfl); exact ⟨3, by omega, by go_num, by rw [HN.out], by rw [hs3], by repeat' (first | with_reducible exact Below.refl _ _ | with_reducible assumption | with_reducible refine Below.drew ?_ | with_reducible refine Below.drewN ?_ _ | with_reducible refine Below.alloc ?_ ?_ _ | with_reducible refine Below.setCell ?_ ?_ _ | with_reducible refine Below.setRow ?_ ?_ _ | with_reducible refine below_step (by assumption) ?_ ?_ | (show (_ : Nat) ≤ _; first | omega | (simp <;> omega)))⟩)
          case measure => simp [intOf]
      · go_wp2
        all_goals
          refine bodyPost_ret (v := .tuple #[.int .i64 _, .int .i64 0]) (res_tt rfl rfl rfl) rfl ⟨?_, by repeat' (first | with_reducible exact Below.refl _ _ | with_reducible assumption | with_reducible refine Below.drew ?_ | with_reducible refine Below.drewN ?_ _ | with_reducible refine Below.alloc ?_ ?_ _ | with_reducible refine Below.setCell ?_ ?_ _ | with_reducible refine Below.setRow ?_ ?_ _ | with_reducible refine below_step (by assumption) ?_ ?_ | (show (_ : Nat) ≤ _; first | omega | (simp <;> omega)))⟩
          first | rfl | (congr 5; omega)
  · rw [show dropsR c = 0 from if_neg (by simp [ho])]
    simp only [ho] at hO ⊢
    have HO := Lib.hid hO
    clear hO ho
    go_enter Try.func39, Try.ntmps39
    go_wp2_with ((go_at_call 88; refine (HO.out _ _ (by (go_simp <;> (intros; omega))) (by first | omega | (simp <;> omega))).mono ?_; rintro e w1 ⟨rfl, hb1⟩; have r1 := keep_rowA hb1; have f1 := keep_frA hb1; have s1 := hb1.size; (try simp only [World.size_alloc, World.size_setCell, setRow_size, World.size_drew] at r1 f1 s1)))
    refine bodyPost_ret (v := .tuple #[.int .i64 0, .int .i64 1]) (res_tt rfl rfl rfl) rfl ⟨rfl, by repeat' (first | with_reducible exact Below.refl _ _ | with_reducible assumption | with_reducible refine Below.drew ?_ | with_reducible refine Below.drewN ?_ _ | with_reducible refine Below.alloc ?_ ?_ _ | with_reducible refine Below.setCell ?_ ?_ _ | with_reducible refine Below.setRow ?_ ?_ _ | with_reducible refine below_step (by assumption) ?_ ?_ | (show (_ : Nat) ≤ _; first | omega | (simp <;> omega)))⟩
end Go.Proofs.Ytigiooollonmjaa
