/- By how much the dyes of two sheets differ: the program, over the cells. -/
import Derived.Test.YtjfbolelanmndaaDiff
namespace Go.Proofs.Ytjfbolelanmndaa
open Go.RowKit
set_option linter.unusedVariables false
set_option linter.unusedSimpArgs false
set_option maxRecDepth 100000
theorem diffp_bound {c d : Nat → Int} (hc : FitSheet c) (hd : FitSheet d) (W : Nat) (h0 : 0 < W) (hW : W ≤ 8) (n : Nat) (hn : n ≤ 8 * W) : 0 ≤ sumTo (fun k => diffF c d (place W k)) n ∧ sumTo (fun k => diffF c d (place W k)) n ≤ 12582720 := by
  have h64 : n ≤ 64 := by have := Nat.mul_le_mul_left 8 hW; omega
  have := sumTo_in (fun k => diffF c d (place W k)) 0 196605 n (fun k hk => by
    have h1 : k / W < 8 := (Nat.div_lt_iff_lt_mul h0).2 (by omega)
    have h2 : k % W < W := Nat.mod_lt _ h0
    exact diff_bound hc hd (place W k) (by unfold place; omega))
  omega
set_option maxHeartbeats 2000000 in
theorem differ_any (a0 a1 a2 b0 b1 b2 : Int) (h0 : -32768 ≤ a0 ∧ a0 ≤ 32767) (h1 : -32768 ≤ a1 ∧ a1 ≤ 32767) (h2 : -32768 ≤ a2 ∧ a2 ≤ 32767) (g0 : -32768 ≤ b0 ∧ b0 ≤ 32767) (g1 : -32768 ≤ b1 ∧ b1 ≤ 32767) (g2 : -32768 ≤ b2 ∧ b2 ≤ 32767) (w : World) :
    Calls Try.prog 93 #[.agg #[.int .i16 a0, .int .i16 a1, .int .i16 a2], .agg #[.int .i16 b0, .int .i16 b1, .int .i16 b2]] w fun e w' => e = .returned (.int .i64 (mag (a0 - b0) + mag (a1 - b1) + mag (a2 - b2))) ∧ Below w.heap.size w w' := by
  go_enter Try.func93, Try.ntmps93
  go_wp2
  refine wp_loop_rounds 4 ?_; rw [rounds_succ]
  go_wp2_with ((rw [rounds_succ]))
  all_goals
    go_ret
    refine ⟨congrArg (fun z => Ending.returned (Value.int IntKind.i64 z)) ?_, by repeat' (first | with_reducible exact Below.refl _ _ | with_reducible assumption | with_reducible refine Below.drew ?_ | with_reducible refine Below.drewN ?_ _ | with_reducible refine Below.alloc ?_ ?_ _ | with_reducible refine Below.setCell ?_ ?_ _ | with_reducible refine Below.setRow ?_ ?_ _ | with_reducible refine below_step (by assumption) ?_ ?_ | (show (_ : Nat) ≤ _; first | omega | (simp <;> omega)))⟩
    unfold mag
    (repeat' split) <;> omega
theorem sameSides_any (c d : Nat → Int) (w : World) : Calls Try.prog 66 #[.agg (kc sk 266 c), .agg (kc sk 266 d)] w fun e w' => e = .returned (.bool (decide (c 0 = d 0) && decide (c 1 = d 1))) ∧ Below w.heap.size w w' := by
  by_cases h : c 0 = d 0
  · have hd : decide (c 0 = d 0) = true := decide_eq_true h
    go_enter Try.func66, Try.ntmps66
    go_wp2
    go_ret
    refine ⟨congrArg (fun z => Ending.returned (Value.bool z)) ?_, by repeat' (first | with_reducible exact Below.refl _ _ | with_reducible assumption | with_reducible refine Below.drew ?_ | with_reducible refine Below.drewN ?_ _ | with_reducible refine Below.alloc ?_ ?_ _ | with_reducible refine Below.setCell ?_ ?_ _ | with_reducible refine Below.setRow ?_ ?_ _ | with_reducible refine below_step (by assumption) ?_ ?_ | (show (_ : Nat) ≤ _; first | omega | (simp <;> omega)))⟩
    simp [h]
    rfl
  · have hd : decide (c 0 = d 0) = false := decide_eq_false h
    go_enter Try.func66, Try.ntmps66
    go_wp2
    go_ret
    refine ⟨congrArg (fun z => Ending.returned (Value.bool z)) ?_, by repeat' (first | with_reducible exact Below.refl _ _ | with_reducible assumption | with_reducible refine Below.drew ?_ | with_reducible refine Below.drewN ?_ _ | with_reducible refine Below.alloc ?_ ?_ _ | with_reducible refine Below.setCell ?_ ?_ _ | with_reducible refine Below.setRow ?_ ?_ _ | with_reducible refine below_step (by assumption) ?_ ?_ | (show (_ : Nat) ≤ _; first | omega | (simp <;> omega)))⟩
    simp [h]
def DiffW (c d : Nat → Int) (W n : Nat) (w0 w1 : World) (i s : Value) (wr : World) : Prop := ∃ k : Nat, k ≤ n ∧ i = .int .i64 k ∧ s = .int .i64 (sumTo (fun k => diffF c d (place W k)) k) ∧ Below w0.heap.size w0 wr ∧ Below w1.heap.size w1 wr
set_option maxHeartbeats 4000000 in
theorem differBy_any (p q : Nat) (c d : Nat → Int) (hc : FitSheet c) (hd : FitSheet d) (W H : Nat) (hW : c 0 = W) (hH : c 1 = H) (W0 : 0 < W) (H0 : 0 < H) (W8 : W ≤ 8) (H8 : H ≤ 8) (w : World) (hr : rowOf w p = kc sk 266 c) (hp : p < w.heap.size) (hr2 : rowOf w q = kc sk 266 d) (hq : q < w.heap.size) :
    Calls Try.prog 67 #[.pointer (some ⟨p, 0, none⟩), .pointer (some ⟨q, 0, none⟩)] w fun e w' => e = .returned (.int .i64 (sumTo (fun k => diffF c d (place W k)) (H * W))) ∧ Below w.heap.size w w' := by
  have hn0 : 0 < H * W := Nat.mul_pos H0 W0
  have hnb : H * W ≤ 8 * W := Nat.mul_le_mul_right _ H8
  have hnb2 : H * W ≤ 64 := by omega
  generalize hn : H * W = n at *
  go_enter Try.func67, Try.ntmps67
  go_wp2_with (go_at_call 91; refine (cells_any _ c hc W H hW hH W8 H8 _ (by (go_simp <;> (intros; omega))) (by first | omega | (simp <;> omega))).mono ?_; rintro e w1 ⟨v, rfl, hown, hb1⟩; rw [hn] at hown; obtain ⟨g, cap, rfl, hg, hgs, hcells⟩ := owns_some hown hn0; have HC := Lib.hid hcells; have HO := Lib.hid hown; clear hown hcells)
  go_loopw [11, 5] (fun i s wr => DiffW c d W n w w1 i s wr) (fun i s wr => n - (intOf i).toNat)
  case atStart => exact ⟨0, by omega, rfl, rfl, by repeat' (first | with_reducible exact Below.refl _ _ | with_reducible assumption | with_reducible refine Below.drew ?_ | with_reducible refine Below.drewN ?_ _ | with_reducible refine Below.alloc ?_ ?_ _ | with_reducible refine Below.setCell ?_ ?_ _ | with_reducible refine Below.setRow ?_ ?_ _ | with_reducible refine below_step (by assumption) ?_ ?_ | (show (_ : Nat) ≤ _; first | omega | (simp <;> omega))), Below.refl _ _⟩
  case round =>
    obtain ⟨k, hk, rfl, rfl, hb, hb2⟩ := hrel
    have hrw : rowOf wr p = kc sk 266 c := (keep_row hb hp).trans hr
    have hpw : p < wr.heap.size := Nat.lt_of_lt_of_le hp hb.size
    have hrw2 : rowOf wr q = kc sk 266 d := (keep_row hb hq).trans hr2
    have hqw : q < wr.heap.size := Nat.lt_of_lt_of_le hq hb.size
    have hsz2 := hb2.size
    have hsz1 := hb.size
    have hgr : rowOf wr g = rowOf w1 g := keep_row hb2 hgs
    have hgw : g < wr.heap.size := Nat.lt_of_lt_of_le hgs hb2.size
    by_cases hlt : k < n
    · obtain ⟨c1, c2⟩ := spots_drop W n k hlt
      have r1 := hgr ▸ HC.out _ _ c1
      have r2 := hgr ▸ HC.out _ _ c2
      have hx8 : k % W < 8 := Nat.lt_of_lt_of_le (Nat.mod_lt _ W0) W8
      have hy8 : k / W < 8 := (Nat.div_lt_iff_lt_mul W0).2 (by omega)
      have HN := Lib.hid (show sumTo (fun k => diffF c d (place W k)) k + diffF c d (k / W * 8 + k % W) = sumTo (fun k => diffF c d (place W k)) (k + 1) from rfl)
      have hs := diffp_bound hc hd W W0 W8 k (by omega)
      clear c1 c2 hgr
      generalize k % W = x at *
      generalize k / W = y at *
      generalize sumTo (fun k => diffF c d (place W k)) k = S at hs HN ⊢
      have hbd := diff_bound hc hd (y * 8 + x) (by omega)
      rw [diff_at] at HN hbd
      have HD := Lib.hid (fun w => differ_any (c (66 + y * 24 + x * 3)) (c (66 + y * 24 + x * 3 + 1)) (c (66 + y * 24 + x * 3 + 2)) (d (66 + y * 24 + x * 3)) (d (66 + y * 24 + x * 3 + 1)) (d (66 + y * 24 + x * 3 + 2)) (hc.cell _ (by omega) (by omega)) (hc.cell _ (by omega) (by omega)) (hc.cell _ (by omega) (by omega)) (hd.cell _ (by omega) (by omega)) (hd.cell _ (by omega) (by omega)) (hd.cell _ (by omega) (by omega)) w)
      generalize mag (c (66 + y * 24 + x * 3) - d (66 + y * 24 + x * 3)) + mag (c (66 + y * 24 + x * 3 + 1) - d (66 + y * 24 + x * 3 + 1)) + mag (c (66 + y * 24 + x * 3 + 2) - d (66 + y * 24 + x * 3 + 2)) = M at HN HD hbd
      have hq0 : IntKind.i64.wrap (S + M) = S + M := IntWalk.i64_in _ (by omega)
      go_wp2
      (refine wp_region_held (S := fun w' => rowOf w' (wr.heap.size) = #[.int .i8 x, .int .i8 y] ∧ rowOf w' (p) = kc sk 266 c ∧ rowOf w' (q) = kc sk 266 d) (by kernel_rfl) ?_); (simp only [World.drew_eq]); (refine wpAnyH_take (i := 2) rfl (by kernel_rfl) (by kernel_rfl) (by kernel_rfl) (fun _ _ _ h => h) (yieldsIf_load (v := .agg (#[.int .i8 x, .int .i8 y])) rfl rfl rfl (fun w ⟨h0, h1, h2⟩ => by go_simp)) ⟨by go_simp, by go_simp, by go_simp⟩ ?_); (try simp only [Act.put, Act.eval, List.getElem_toArray, List.getElem_cons_zero, List.getElem_cons_succ, List.setIfInBounds_toArray, List.set_cons_zero, List.set_cons_succ, Array.getD_eq_getD_getElem?, List.getElem?_toArray, List.getElem?_cons_zero, List.getElem?_cons_succ, Option.getD_some]); (refine wpAnyH_take (i := 5) rfl (by kernel_rfl) (by kernel_rfl) (by kernel_rfl) (fun _ _ _ h => h) (yieldsIf_load (v := .agg (#[.int .i8 x, .int .i8 y])) rfl rfl rfl (fun w ⟨h0, h1, h2⟩ => by go_simp)) ⟨by go_simp, by go_simp, by go_simp⟩ ?_); (try simp only [Act.put, Act.eval, List.getElem_toArray, List.getElem_cons_zero, List.getElem_cons_succ, List.setIfInBounds_toArray, List.set_cons_zero, List.set_cons_succ, Array.getD_eq_getD_getElem?, List.getElem?_toArray, List.getElem?_cons_zero, List.getElem?_cons_succ, Option.getD_some]); (refine wpAnyH_take (i := 0) rfl (by kernel_rfl) (by kernel_rfl) (by kernel_rfl) (fun _ _ _ h => h) (yieldsIf_move rfl rfl) ⟨by go_simp, by go_simp, by go_simp⟩ ?_); (try simp only [Act.put, Act.eval, List.getElem_toArray, List.getElem_cons_zero, List.getElem_cons_succ, List.setIfInBounds_toArray, List.set_cons_zero, List.set_cons_succ, Array.getD_eq_getD_getElem?, List.getElem?_toArray, List.getElem?_cons_zero, List.getElem?_cons_succ, Option.getD_some]); (refine wpAnyH_take (i := 1) rfl (by kernel_rfl) (by kernel_rfl) (by kernel_rfl) (fun _ _ _ h => h) (yieldsIf_move rfl rfl) ⟨by go_simp, by go_simp, by go_simp⟩ ?_); (try simp only [Act.put, Act.eval, List.getElem_toArray, List.getElem_cons_zero, List.getElem_cons_succ, List.setIfInBounds_toArray, List.set_cons_zero, List.set_cons_succ, Array.getD_eq_getD_getElem?, List.getElem?_toArray, List.getElem?_cons_zero, List.getElem?_cons_succ, Option.getD_some]); (refine wpAnyH_take (i := 4) rfl (by kernel_rfl) (by kernel_rfl) (by kernel_rfl) (fun _ _ _ h => h) (yieldsIf_move rfl rfl) ⟨by go_simp, by go_simp, by go_simp⟩ ?_); (try simp only [Act.put, Act.eval, List.getElem_toArray, List.getElem_cons_zero, List.getElem_cons_succ, List.setIfInBounds_toArray, List.set_cons_zero, List.set_cons_succ, Array.getD_eq_getD_getElem?, List.getElem?_toArray, List.getElem?_cons_zero, List.getElem?_cons_succ, Option.getD_some]); (refine wpAnyH_one (i := 3) (by kernel_rfl) rfl rfl ?_); (go_simp); (first | (go_at_call 55; with_reducible refine (dye_any p c hc x y hx8 hy8 _ ?_ ?_).mono ?_; (focus (go_simp <;> (intros; omega))); (focus (first | omega | (simp <;> omega))); rintro e w1 ⟨rfl, hb1⟩; have r1 := keep_rowA hb1; have f1 := keep_frA hb1; have s1 := hb1.size; try simp only [World.size_alloc, World.size_setCell, setRow_size, World.size_drew] at r1 f1 s1) | (go_at_call 55; with_reducible refine (dye_any q d hd x y hx8 hy8 _ ?_ ?_).mono ?_; (focus (go_simp <;> (intros; omega))); (focus (first | omega | (simp <;> omega))); rintro e w1 ⟨rfl, hb1⟩; have r1 := keep_rowA hb1; have f1 := keep_frA hb1; have s1 := hb1.size; try simp only [World.size_alloc, World.size_setCell, setRow_size, World.size_drew] at r1 f1 s1) | (go_at_call 93; refine (HD.out _).mono ?_; rintro e w1 ⟨rfl, hb1⟩; have r1 := keep_rowA hb1; have f1 := keep_frA hb1; have s1 := hb1.size; try simp only [World.size_alloc, World.size_setCell, setRow_size, World.size_drew] at r1 f1 s1)); (refine ⟨⟨by go_simp, by go_simp, by go_simp⟩, ?_⟩); (try simp only [Act.put, Act.eval, List.getElem_toArray, List.getElem_cons_zero, List.getElem_cons_succ, List.setIfInBounds_toArray, List.set_cons_zero, List.set_cons_succ, Array.getD_eq_getD_getElem?, List.getElem?_toArray, List.getElem?_cons_zero, List.getElem?_cons_succ, Option.getD_some]); (refine wpAnyH_one (i := 6) (by kernel_rfl) rfl rfl ?_); (go_simp); (first | (go_at_call 55; with_reducible refine (dye_any p c hc x y hx8 hy8 _ ?_ ?_).mono ?_; (focus (go_simp <;> (intros; omega))); (focus (first | omega | (simp <;> omega))); rintro e w1 ⟨rfl, hb1⟩; have r1 := keep_rowA hb1; have f1 := keep_frA hb1; have s1 := hb1.size; try simp only [World.size_alloc, World.size_setCell, setRow_size, World.size_drew] at r1 f1 s1) | (go_at_call 55; with_reducible refine (dye_any q d hd x y hx8 hy8 _ ?_ ?_).mono ?_; (focus (go_simp <;> (intros; omega))); (focus (first | omega | (simp <;> omega))); rintro e w1 ⟨rfl, hb1⟩; have r1 := keep_rowA hb1; have f1 := keep_frA hb1; have s1 := hb1.size; try simp only [World.size_alloc, World.size_setCell, setRow_size, World.size_drew] at r1 f1 s1) | (go_at_call 93; refine (HD.out _).mono ?_; rintro e w1 ⟨rfl, hb1⟩; have r1 := keep_rowA hb1; have f1 := keep_frA hb1; have s1 := hb1.size; try simp only [World.size_alloc, World.size_setCell, setRow_size, World.size_drew] at r1 f1 s1)); (refine ⟨⟨by go_simp, by go_simp, by go_simp⟩, ?_⟩); (try simp only [Act.put, Act.eval, List.getElem_toArray, List.getElem_cons_zero, List.getElem_cons_succ, List.setIfInBounds_toArray, List.set_cons_zero, List.set_cons_succ, Array.getD_eq_getD_getElem?, List.getElem?_toArray, List.getElem?_cons_zero, List.getElem?_cons_succ, Option.getD_some]); (refine wpAnyH_one (i := 7) (by kernel_rfl) rfl rfl ?_); (go_simp); (first | (go_at_call 55; with_reducible refine (dye_any p c hc x y hx8 hy8 _ ?_ ?_).mono ?_; (focus (go_simp <;> (intros; omega))); (focus (first | omega | (simp <;> omega))); rintro e w1 ⟨rfl, hb1⟩; have r1 := keep_rowA hb1; have f1 := keep_frA hb1; have s1 := hb1.size; try simp only [World.size_alloc, World.size_setCell, setRow_size, World.size_drew] at r1 f1 s1) | (go_at_call 55; with_reducible refine (dye_any q d hd x y hx8 hy8 _ ?_ ?_).mono ?_; (focus (go_simp <;> (intros; omega))); (focus (first | omega | (simp <;> omega))); rintro e w1 ⟨rfl, hb1⟩; have r1 := keep_rowA hb1; have f1 := keep_frA hb1; have s1 := hb1.size; try simp only [World.size_alloc, World.size_setCell, setRow_size, World.size_drew] at r1 f1 s1) | (go_at_call 93; refine (HD.out _).mono ?_; rintro e w1 ⟨rfl, hb1⟩; have r1 := keep_rowA hb1; have f1 := keep_frA hb1; have s1 := hb1.size; try simp only [World.size_alloc, World.size_setCell, setRow_size, World.size_drew] at r1 f1 s1)); (refine ⟨⟨by go_simp, by go_simp, by go_simp⟩, ?_⟩); (try simp only [Act.put, Act.eval, List.getElem_toArray, List.getElem_cons_zero, List.getElem_cons_succ, List.setIfInBounds_toArray, List.set_cons_zero, List.set_cons_succ, Array.getD_eq_getD_getElem?, List.getElem?_toArray, List.getElem?_cons_zero, List.getElem?_cons_succ, Option.getD_some]); (refine wpAnyH_take (i := 8) (v := .int .i64 (S + M)) rfl (by kernel_rfl) (by kernel_rfl) (by kernel_rfl) (fun _ _ _ h => h) (.inl ⟨by simp [Region.wanted], fun w _ => by unfold execOp; go_simp⟩) ⟨by go_simp, by go_simp, by go_simp⟩ ?_); (try simp only [Act.put, Act.eval, List.getElem_toArray, List.getElem_cons_zero, List.getElem_cons_succ, List.setIfInBounds_toArray, List.set_cons_zero, List.set_cons_succ, Array.getD_eq_getD_getElem?, List.getElem?_toArray, List.getElem?_cons_zero, List.getElem?_cons_succ, Option.getD_some]); (refine wpAnyH_take (i := 9) rfl (by kernel_rfl) (by kernel_rfl) (by kernel_rfl) (fun _ _ _ h => h) (yieldsIf_assign rfl rfl) ⟨by go_simp, by go_simp, by go_simp⟩ ?_); (try simp only [Act.put, Act.eval, List.getElem_toArray, List.getElem_cons_zero, List.getElem_cons_succ, List.setIfInBounds_toArray, List.set_cons_zero, List.set_cons_succ, Array.getD_eq_getD_getElem?, List.getElem?_toArray, List.getElem?_cons_zero, List.getElem?_cons_succ, Option.getD_some]); (refine wpAnyH_done (by kernel_rfl) ?_ _)
      go_wp2
      go_roundw
      case rel => first | exact ⟨k + 1, by omega, by go_num, by rw [← HN.out], by repeat' (first | with_reducible exact Below.refl _ _ | with_reducible assumption | with_reducible refine Below.drew ?_ | with_reducible refine Below.drewN ?_ _ | with_reducible refine Below.alloc ?_ ?_ _ | with_reducible refine Below.setCell ?_ ?_ _ | with_reducible refine Below.setRow ?_ ?_ _ | with_reducible refine below_step (by assumption) ?_ ?_ | (show (_ : Nat) ≤ _; first | omega | (simp <;> omega))), by repeat' (first | with_reducible exact Below.refl _ _ | with_reducible assumption | with_reducible refine Below.drew ?_ | with_reducible refine Below.drewN ?_ _ | with_reducible refine Below.alloc ?_ ?_ _ | with_reducible refine Below.setCell ?_ ?_ _ | with_reducible refine Below.setRow ?_ ?_ _ | with_reducible refine below_step (by assumption) ?_ ?_ | (show (_ : Nat) ≤ _; first | omega | (simp <;> omega)))⟩ | ((repeat (with_reducible apply Exists.intro)); refine And.intro ?_ ?_; rotate_left; focus ((repeat' (with_reducible apply And.intro)) <;> rfl); exact ⟨k + 1, by omega, by go_num, by rw [← HN.out], by repeat' (first | with_reducible exact Below.refl _ _ | with_reducible assumption | with_reducible refine Below.drew ?_ | with_reducible refine Below.drewN ?_ _ | with_reducible refine Below.alloc ?_ ?_ _ | with_reducible refine Below.setCell ?_ ?_ _ | with_reducible refine Below.setRow ?_ ?_ _ | with_reducible refine below_step (by assumption) ?_ ?_ | (show (_ : Nat) ≤ _; first | omega | (simp <;> omega))), by repeat' (first | with_reducible exact Below.refl _ _ | with_reducible assumption | with_reducible refine Below.drew ?_ | with_reducible refine Below.drewN ?_ _ | with_reducible refine Below.alloc ?_ ?_ _ | with_reducible refine Below.setCell ?_ ?_ _ | with_reducible refine Below.setRow ?_ ?_ _ | with_reducible refine below_step (by assumption) ?_ ?_ | (show (_ : Nat) ≤ _; first | omega | (simp <;> omega)))⟩)
      case measure => simp [intOf]; omega
    · have hke : k = n := by omega
      subst hke
      go_wp2
      go_ret
      exact ⟨rfl, by repeat' (first | with_reducible exact Below.refl _ _ | with_reducible assumption | with_reducible refine Below.drew ?_ | with_reducible refine Below.drewN ?_ _ | with_reducible refine Below.alloc ?_ ?_ _ | with_reducible refine Below.setCell ?_ ?_ _ | with_reducible refine Below.setRow ?_ ?_ _ | with_reducible refine below_step (by assumption) ?_ ?_ | (show (_ : Nat) ≤ _; first | omega | (simp <;> omega)))⟩
end Go.Proofs.Ytjfbolelanmndaa
