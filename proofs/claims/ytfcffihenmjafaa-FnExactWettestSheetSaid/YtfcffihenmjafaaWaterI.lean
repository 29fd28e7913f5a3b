/- The water of a sheet: the program's way, over its cells. -/
import Derived.Test.YtfcffihenmjafaaWater
namespace Go.Proofs.Ytfcffihenmjafaa
open Go.RowKit
set_option linter.unusedVariables false
set_option linter.unusedSimpArgs false
set_option maxRecDepth 100000
theorem spots_len (W n : Nat) : (spots W n).length = n * 2 := by
  induction n with
  | zero => rfl
  | succ n ih =>
    have e : spots W (n + 1) = spots W n ++ [.int .i8 ((n % W : Nat) : Int), .int .i8 ((n / W : Nat) : Int)] := by
      unfold spots; rw [List.range_succ, List.flatMap_append]; simp only [List.flatMap_cons, List.flatMap_nil, List.append_nil]
    rw [e, List.length_append, ih, Nat.succ_mul]; rfl
theorem spots_drop (W : Nat) (n i : Nat) (h : i < n) : (spots W n)[i * 2]? = some (.int .i8 ((i % W : Nat) : Int)) ∧ (spots W n)[i * 2 + 1]? = some (.int .i8 ((i / W : Nat) : Int)) := by
  induction n with
  | zero => omega
  | succ n ih =>
    have hl := spots_len W n
    have e : spots W (n + 1) = spots W n ++ [.int .i8 ((n % W : Nat) : Int), .int .i8 ((n / W : Nat) : Int)] := by
      unfold spots; rw [List.range_succ, List.flatMap_append]; simp only [List.flatMap_cons, List.flatMap_nil, List.append_nil]
    rw [e]
    by_cases hi : i < n
    · rw [List.getElem?_append_left (by omega), List.getElem?_append_left (by omega)]
      exact ih hi
    · have : i = n := by omega
      subst this
      rw [List.getElem?_append_right (by omega), List.getElem?_append_right (by omega), hl]
      refine ⟨by rw [Nat.sub_self]; rfl, by rw [show i * 2 + 1 - i * 2 = 1 by omega]; rfl⟩
/-- A row that is owned and not empty, by its cells. -/
theorem owns_some {w : World} {base : Nat} {e : TypeId} {v : Value} {n : Nat} {xs : List Value} (h : w.ownsRow base e 2 v n xs) (hn : 0 < n) :
    ∃ g cap, v = .slice (some ⟨g, 0, none⟩) n cap ∧ base ≤ g ∧ g < w.heap.size ∧ ∀ (j : Nat) (u : Value), xs[j]? = some u → (rowOf w g)[j]? = some u := by
  obtain ⟨hl, ⟨_, h0⟩ | ⟨g, cap, cur, rfl, hb, hg, _, _, _, ht⟩⟩ := h
  · omega
  · refine ⟨g, cap, rfl, hb, (Array.getElem?_eq_some_iff.1 hg).1, fun j u hj => ?_⟩
    have hrow : rowOf w g = cur := by simp [rowOf, hg, objRow]
    rw [hrow, ← Array.getElem?_toList]
    rw [← ht, List.getElem?_take] at hj
    split at hj
    · exact hj
    · cases hj
def SumW (c : Nat → Int) (W n : Nat) (w0 w1 : World) (i s : Value) (wr : World) : Prop := ∃ k : Nat, k ≤ n ∧ i = .int .i64 k ∧ s = .int .i64 (sumTo (fun k => wetF c (place W k)) k) ∧ Below w0.heap.size w0 wr ∧ Below w1.heap.size w1 wr
theorem wetp_bound {c : Nat → Int} (hf : FitSheet c) (W : Nat) (h0 : 0 < W) (hW : W ≤ 8) (n : Nat) (hn : n ≤ 8 * W) : -2097152 ≤ sumTo (fun k => wetF c (place W k)) n ∧ sumTo (fun k => wetF c (place W k)) n ≤ 2097152 := by
  have h64 : n ≤ 64 := by have := Nat.mul_le_mul_left 8 hW; omega
  have := sumTo_in (fun k => wetF c (place W k)) (-32768) 32767 n (fun k hk => by
    have h1 : k / W < 8 := (Nat.div_lt_iff_lt_mul h0).2 (by omega)
    have h2 : k % W < W := Nat.mod_lt _ h0
    exact hf.cell (2 + place W k) (by omega) (by unfold place; omega))
  omega
set_option maxHeartbeats 2000000 in
theorem water_any (p : Nat) (c : Nat → Int) (hf : FitSheet c) (W H : Nat) (hW : c 0 = W) (hH : c 1 = H) (W0 : 0 < W) (H0 : 0 < H) (W8 : W ≤ 8) (H8 : H ≤ 8) (w : World) (hr : rowOf w p = kc sk 266 c) (hp : p < w.heap.size) :
    Calls Try.prog 59 #[.pointer (some ⟨p, 0, none⟩)] w fun e w' => e = .returned (.int .i64 (sumTo (fun k => wetF c (place W k)) (H * W))) ∧ Below w.heap.size w w' := by
  have hn0 : 0 < H * W := Nat.mul_pos H0 W0
  have hnb : H * W ≤ 8 * W := Nat.mul_le_mul_right _ H8
  have hnb2 : H * W ≤ 64 := by omega
  generalize hn : H * W = n at *
  go_enter Try.func59, Try.ntmps59
  go_wp2_with (go_at_call 102; refine (cells_any _ c hf W H hW hH W8 H8 _ (by (go_simp <;> (intros; omega))) (by first | omega | (simp <;> omega))).mono ?_; rintro e w1 ⟨v, rfl, hown, hb1⟩; rw [hn] at hown; obtain ⟨g, cap, rfl, hg, hgs, hcells⟩ := owns_some hown hn0; have HC := Lib.hid hcells; have HO := Lib.hid hown; clear hown hcells)
  go_loopw [9, 3] (fun i s wr => SumW c W n w w1 i s wr) (fun i s wr => n - (intOf i).toNat)
  case atStart => exact ⟨0, by omega, rfl, rfl, by repeat' (first | with_reducible exact Below.refl _ _ | with_reducible assumption | with_reducible refine Below.drew ?_ | with_reducible refine Below.drewN ?_ _ | with_reducible refine Below.alloc ?_ ?_ _ | with_reducible refine Below.setCell ?_ ?_ _ | with_reducible refine Below.setRow ?_ ?_ _ | with_reducible refine below_step (by assumption) ?_ ?_ | (show (_ : Nat) ≤ _; first | omega | (simp <;> omega))), Below.refl _ _⟩
  case round =>
    obtain ⟨k, hk, rfl, rfl, hb, hb2⟩ := hrel
    have hrw : rowOf wr p = kc sk 266 c := (keep_row hb hp).trans hr
    have hpw : p < wr.heap.size := Nat.lt_of_lt_of_le hp hb.size
    have hsz2 := hb2.size
    have hsz1 := hb.size
    have hgr : rowOf wr g = rowOf w1 g := keep_row hb2 hgs
    have hgw : g < wr.heap.size := Nat.lt_of_lt_of_le hgs hb2.size
    by_cases hlt : k < n
    · obtain ⟨c1, c2⟩ := spots_drop W n k hlt
      have r1 := hgr ▸ HC.out _ _ c1
      have r2 := hgr ▸ HC.out _ _ c2
      have hx8 : k % W < 8 := Nat.lt_of_lt_of_le (Nat.mod_lt _ W0) W8
      have hy8 : k / W < 8 := (Nat.div_lt_iff_lt_mul W0).2 (by omega)
      have HN := Lib.hid (show sumTo (fun k => wetF c (place W k)) k + c (2 + k / W * 8 + k % W) = sumTo (fun k => wetF c (place W k)) (k + 1) by
        show _ = sumTo (fun k => wetF c (place W k)) k + c (2 + (k / W * 8 + k % W)); rw [Nat.add_assoc])
      have hs := wetp_bound hf W W0 W8 k (by omega)
      have hw0 := hf.cell (2 + k / W * 8 + k % W) (by omega) (by omega)
      clear c1 c2 hgr
      generalize k % W = x at *
      generalize k / W = y at *
      generalize sumTo (fun k => wetF c (place W k)) k = S at hs HN ⊢
      go_wp2_with ((go_at_call 96; refine (wet_any _ c hf x y hx8 hy8 _ (by (go_simp <;> (intros; omega))) (by first | omega | (simp <;> omega))).mono ?_; rintro e w1 ⟨rfl, hb1⟩; have r1 := keep_rowA hb1; have f1 := keep_frA hb1; have s1 := hb1.size; (try simp only [World.size_alloc, World.size_setCell, setRow_size, World.size_drew, size_drewNm] at r1 f1 s1)))
      go_roundw
      case rel => first | exact ⟨k + 1, by omega, by go_num, by rw [← HN.out], by repeat' (first | with_reducible exact Below.refl _ _ | with_reducible assumption | with_reducible refine Below.drew ?_ | with_reducible refine Below.drewN ?_ _ | with_reducible refine Below.alloc ?_ ?_ _ | with_reducible refine Below.setCell ?_ ?_ _ | with_reducible refine Below.setRow ?_ ?_ _ | with_reducible refine below_step (by assumption) ?_ ?_ | (show (_ : Nat) ≤ _; first | omega | (simp <;> omega))), by repeat' (first | with_reducible exact Below.refl _ _ | with_reducible assumption | with_reducible refine Below.drew ?_ | with_reducible refine Below.drewN ?_ _ | with_reducible refine Below.alloc ?_ ?_ _ | with_reducible refine Below.setCell ?_ ?_ _ | with_reducible refine Below.setRow ?_ ?_ _ | with_reducible refine below_step (by assumption) ?_ ?_ | (show (_ : Nat) ≤ _; first | omega | (simp <;> omega)))⟩ | ((repeat (with_reducible apply Exists.intro)); refine And.intro ?_ ?_; rotate_left; focus ((repeat' (with_reducible apply And.intro)) <;> rfl); exact ⟨k + 1, by omega, by go_num, by rw [← HN.out], by repeat' (first | with_reducible exact Below.refl _ _ | with_reducible assumption | with_reducible refine Below.drew ?_ | with_reducible refine Below.drewN ?_ _ | with_reducible refine Below.alloc ?_ ?_ _ | with_reducible refine Below.setCell ?_ ?_ _ | with_reducible refine Below.setRow ?_ ?_ _ | with_reducible refine below_step (by assumption) ?_ ?_ | (show (_ : Nat) ≤ _; first | omega | (simp <;> omega))), by repeat' (first | with_reducible exact Below.refl _ _ | with_reducible assumption | with_reducible refine Below.drew ?_ | with_reducible refine Below.drewN ?_ _ | with_reducible refine Below.alloc ?_ ?_ _ | with_reducible refine Below.setCell ?_ ?_ _ | with_reducible refine Below.setRow ?_ ?_ _ | with_reducible refine below_step (by assumption) ?_ ?_ | (show (_ : Nat) ≤ _; first | omega | (simp <;> omega)))⟩)
      case measure => simp [intOf]; omega
    · have hke : k = n := by omega
      subst hke
      go_wp2
      go_ret
      exact ⟨rfl, by repeat' (first | with_reducible exact Below.refl _ _ | with_reducible assumption | with_reducible refine Below.drew ?_ | with_reducible refine Below.drewN ?_ _ | with_reducible refine Below.alloc ?_ ?_ _ | with_reducible refine Below.setCell ?_ ?_ _ | with_reducible refine Below.setRow ?_ ?_ _ | with_reducible refine below_step (by assumption) ?_ ?_ | (show (_ : Nat) ≤ _; first | omega | (simp <;> omega)))⟩
open Classical in
noncomputable def waterR (c : Nat → Int) : Int := if okS c = true then sumTo (wetF c) 64 else 0
theorem okS_sides {c : Nat → Int} (h : okS c = true) : ∃ W H : Nat, c 0 = W ∧ c 1 = H ∧ 0 < W ∧ 0 < H ∧ W ≤ 8 ∧ H ≤ 8 := by
  have ⟨h0, h1, _⟩ : OkS c := by simpa [okS] using h
  exact ⟨(c 0).toNat, (c 1).toNat, by omega, by omega, by omega, by omega, by omega, by omega⟩
end Go.Proofs.Ytfcffihenmjafaa
