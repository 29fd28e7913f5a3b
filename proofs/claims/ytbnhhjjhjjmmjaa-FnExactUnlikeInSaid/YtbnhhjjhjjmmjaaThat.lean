/- The cells of a sheet that something holds for: deleted from the list of all cells, in place. -/
import Derived.Test.YtbnhhjjhjjmmjaaThatV
import Derived.Test.YtbnhhjjhjjmmjaaWaterI
import Derived.Test.YtbnhhjjhjjmmjaaSpotS
import Derived.Lib.SliceRun
namespace Go.Proofs.Ytbnhhjjhjjmmjaa
open Go.RowKit
set_option linter.unusedVariables false
set_option linter.unusedSimpArgs false
set_option maxRecDepth 100000
/-- A slice of rows is cleared. -/
theorem run_clear_wide {P : Program} (w : World) (t e ty : TypeId) (z : Value) (s : Nat) (ht : P.underlying t = some (.slice e)) (hv : ∀ w, (zeroValue e).run P w = .ok z w) (hz : z.cells.size = s) (h1 : ∀ (n : Nat), ∀ u ∈ (Builtin.zeroCells z.cells n).toList, u.oneCell' = true) (b o n c : Nat) (hn : 0 < n)
    (hfit : o + n * s ≤ (rowOf w b).size) (hfr : frOf w b = (0, 0)) :
    (Builtin.clear_ #[t] ty #[.slice (some ⟨b, o, none⟩) n c]).run P w = .ok (.tuple #[]) (w.setRow b (splice (rowOf w b) o (Builtin.zeroCells z.cells n))) := by
  have hl : (Builtin.zeroCells z.cells n).toList.length = n * s := by rw [Array.length_toList, size_zeroCells, hz]
  have hst := run_storeCells_cells (P := P) b o (Builtin.zeroCells z.cells n).toList 0 w (fun j hj => by
      rw [cell_row, Nat.add_zero]
      rw [hl] at hj
      rw [Array.getElem?_eq_getElem (by omega)]; rfl) (fun j hj => by rw [frozen_row, hfr]; simp) (h1 n)
  simp only [Nat.add_zero] at hst
  obtain ⟨m, rfl⟩ : ∃ m, n = m + 1 := ⟨n - 1, by omega⟩
  rw [setCells_eq_setRow b _ o w (by rw [hl]; omega), Array.toArray_toList] at hst
  simp [Builtin.clear_, run_underlying ht, hv, hst]
/-- All old blocks but one read as before. -/
def Keeps (g : Nat) (w w2 : World) : Prop := w.heap.size ≤ w2.heap.size ∧ ∀ b, b ≠ g → b < w.heap.size → rowOf w2 b = rowOf w b
theorem keeps_below {g : Nat} {w w2 : World} (h : Below w.heap.size w w2) : Keeps g w w2 := ⟨h.size, fun b _ hb => keep_row h hb⟩
theorem keeps_after {g : Nat} {w w2 w3 : World} (h : Keeps g w w2) (h2 : Below w2.heap.size w2 w3) : Keeps g w w3 := ⟨Nat.le_trans h.1 h2.size, fun b hb hbw => (keep_row h2 (Nat.lt_of_lt_of_le hbw h.1)).trans (h.2 b hb hbw)⟩
theorem sel_lt {U : Nat → Bool} {i : Nat} (hU : U i = false) : ∀ j, i < j → selN U j < j
  | 0, h => absurd h (by omega)
  | j + 1, h => by
    rcases Nat.lt_succ_iff_lt_or_eq.1 h with h1 | rfl
    · have := sel_lt hU j h1
      rcases Bool.eq_false_or_eq_true (U j) with e | e
      · rw [(sel_yes (W := 0) e).2]; omega
      · rw [(sel_no (W := 0) e).2]; omega
    · have := selN_le U i
      rw [(sel_no (W := 0) hU).2]; omega
theorem del_put {d : Array Value} {U : Nat → Bool} {W j : Nat} (hU : U j = true) (hds : selN U j * 2 + 1 < d.size) (hd : ∀ t, t < selN U j * 2 → d[t]? = (selL U W j)[t]?) :
    ∀ t, t < selN U (j + 1) * 2 → ((d.setIfInBounds (selN U j * 2) (.int .i8 ((j % W : Nat) : Int))).setIfInBounds (selN U j * 2 + 1) (.int .i8 ((j / W : Nat) : Int)))[t]? = (selL U W (j + 1))[t]? := by
  intro t ht
  obtain ⟨h1, h2⟩ := sel_yes (U := U) (W := W) hU
  have hl := selL_len U W j
  rw [h1]
  rw [h2] at ht
  rw [Array.getElem?_setIfInBounds, Array.getElem?_setIfInBounds]
  by_cases e1 : selN U j * 2 + 1 = t
  · subst e1
    rw [if_pos rfl, if_pos (by simp; omega), List.getElem?_append_right (by omega), hl, show selN U j * 2 + 1 - selN U j * 2 = 1 by omega]; rfl
  · rw [if_neg e1]
    by_cases e2 : selN U j * 2 = t
    · subst e2
      rw [if_pos rfl, if_pos (by omega), List.getElem?_append_right (by omega), hl, Nat.sub_self]; rfl
    · rw [if_neg e2, hd t (by omega), List.getElem?_append_left (by omega)]
/-- The first place that something does not hold for, or none. -/
def FirstNo (U : Nat → Bool) (n : Nat) (k : Int) : Prop := (k = -1 ∧ ∀ i, i < n → U i = true) ∨ ∃ i : Nat, k = i ∧ i < n ∧ U i = false ∧ ∀ j, j < i → U j = true
def ClT (U : Nat → Bool) (W n g q : Nat) (w : World) : Prop := ∀ k, k < n → ∀ w2, Keeps g w w2 → Calls Try.prog 83 #[.agg #[.int .i8 ((k % W : Nat) : Int), .int .i8 ((k / W : Nat) : Int)], .pointer (some ⟨q, 0, none⟩)] w2 fun e w' => e = .returned (.bool (!(U k))) ∧ Below w2.heap.size w2 w'
set_option maxHeartbeats 4000000 in
theorem firstNo_any (U : Nat → Bool) (W n g q cap : Nat) (hn : n ≤ 64) (w : World) (hcl : ClT U W n g q w) (hg : g < w.heap.size) (hc : ∀ (j : Nat) (u : Value), (spots W n)[j]? = some u → (rowOf w g)[j]? = some u) :
    Calls Try.prog 113 #[.slice (some ⟨g, 0, none⟩) n cap, .func (.func 83) #[] #[.pointer (some ⟨q, 0, none⟩)]] w fun e w' => ∃ k : Int, e = .returned (.int .i64 k) ∧ FirstNo U n k ∧ Below w.heap.size w w' := by
  have HC := Lib.hid hc
  have HCL := Lib.hid hcl
  clear hc hcl
  go_enter Try.func113, Try.ntmps113
  go_wp2
  go_loopw [8] (fun i wr => ∃ k : Nat, k ≤ n ∧ i = .int .i64 k ∧ Below w.heap.size w wr ∧ ∀ j, j < k → U j = true) (fun i wr => n + 1 - (intOf i).toNat)
  case atStart => exact ⟨0, by omega, rfl, by repeat' (first | with_reducible exact Below.refl _ _ | with_reducible assumption | with_reducible refine Below.drew ?_ | with_reducible refine Below.drewN ?_ _ | with_reducible refine Below.alloc ?_ ?_ _ | with_reducible refine Below.setCell ?_ ?_ _ | with_reducible refine Below.setRow ?_ ?_ _ | with_reducible refine below_step (by assumption) ?_ ?_ | (show (_ : Nat) ≤ _; first | omega | (simp <;> omega))), fun i h1 => by omega⟩
  case round =>
    obtain ⟨k, hk1, rfl, hb, hin⟩ := hrel
    have hsz := hb.size
    have HIN := Lib.hid hin
    clear hin
    have hrg := keep_row hb hg
    have hgw : g < wr.heap.size := Nat.lt_of_lt_of_le hg hsz
    by_cases hlt : k < n
    · obtain ⟨p1, p2⟩ := spots_drop W n k hlt
      have r1 := HC.out _ _ p1
      have r2 := HC.out _ _ p2
      rw [← hrg] at r1 r2
      have hOS := fun w2 hk => HCL.out k hlt w2 hk
      clear p1 p2 hrg
      rcases Bool.eq_false_or_eq_true (U k) with hs | hs
      · rw [hs] at hOS
        have HOS := Lib.hid hOS
        have HN := Lib.hid (show ∀ j, j < k + 1 → U j = true from fun j hj => by rcases Nat.lt_succ_iff_lt_or_eq.1 hj with h | rfl; exact HIN.out j h; exact hs)
        clear hOS hs
        generalize k % W = x at *
        generalize k / W = y at *
        go_wp2_with ((go_at_call 83; refine (HOS.out _ (keeps_below (by repeat' (first | with_reducible exact Below.refl _ _ | with_reducible assumption | with_reducible refine Below.drew ?_ | with_reducible refine Below.drewN ?_ _ | with_reducible refine Below.alloc ?_ ?_ _ | with_reducible refine Below.setCell ?_ ?_ _ | with_reducible refine Below.setRow ?_ ?_ _ | with_reducible refine below_step (by assumption) ?_ ?_ | (show (_ : Nat) ≤ _; first | omega | (simp <;> omega)))))).mono ?_; rintro e w1 ⟨rfl, hb1⟩; have r1 := keep_rowA hb1; have f1 := keep_frA hb1; have s1 := hb1.size; (try simp only [World.size_alloc, World.size_setCell, setRow_size, World.size_drew, size_drewNm] at r1 f1 s1)))
        go_roundw
        case rel => first | exact ⟨k + 1, by omega, by go_num, by repeat' (first | with_reducible exact Below.refl _ _ | with_reducible assumption | with_reducible refine Below.drew ?_ | with_reducible refine Below.drewN ?_ _ | with_reducible refine Below.alloc ?_ ?_ _ | with_reducible refine Below.setCell ?_ ?_ _ | with_reducible refine Below.setRow ?_ ?_ _ | with_reducible refine below_step (by assumption) ?_ ?_ | (show (_ : Nat) ≤ _; first | omega | (simp <;> omega))), HN.out⟩ | ((repeat (with_reducible apply Exists.intro)); refine And.intro ?_ ?_; rotate_left; focus ((repeat' (with_reducible apply And.intro)) <;> rfl); exact ⟨k + 1, by omega, by go_num, by repeat' (first | with_reducible exact Below.refl _ _ | with_reducible assumption | with_reducible refine Below.drew ?_ | with_reducible refine Below.drewN ?_ _ | with_reducible refine Below.alloc ?_ ?_ _ | with_reducible refine Below.setCell ?_ ?_ _ | with_reducible refine Below.setRow ?_ ?_ _ | with_reducible refine below_step (by assumption) ?_ ?_ | (show (_ : Nat) ≤ _; first | omega | (simp <;> omega))), HN.out⟩)
        case measure => simp [intOf] <;> omega
      · rw [hs] at hOS
        have HOS := Lib.hid hOS
        have HN := Lib.hid hs
        clear hOS hs
        generalize k % W = x at *
        generalize k / W = y at *
        go_wp2_with ((go_at_call 83; refine (HOS.out _ (keeps_below (by repeat' (first | with_reducible exact Below.refl _ _ | with_reducible assumption | with_reducible refine Below.drew ?_ | with_reducible refine Below.drewN ?_ _ | with_reducible refine Below.alloc ?_ ?_ _ | with_reducible refine Below.setCell ?_ ?_ _ | with_reducible refine Below.setRow ?_ ?_ _ | with_reducible refine below_step (by assumption) ?_ ?_ | (show (_ : Nat) ≤ _; first | omega | (simp <;> omega)))))).mono ?_; rintro e w1 ⟨rfl, hb1⟩; have r1 := keep_rowA hb1; have f1 := keep_frA hb1; have s1 := hb1.size; (try simp only [World.size_alloc, World.size_setCell, setRow_size, World.size_drew, size_drewNm] at r1 f1 s1)))
        go_ret
        exact ⟨k, rfl, .inr ⟨k, rfl, hlt, HN.out, HIN.out⟩, by repeat' (first | with_reducible exact Below.refl _ _ | with_reducible assumption | with_reducible refine Below.drew ?_ | with_reducible refine Below.drewN ?_ _ | with_reducible refine Below.alloc ?_ ?_ _ | with_reducible refine Below.setCell ?_ ?_ _ | with_reducible refine Below.setRow ?_ ?_ _ | with_reducible refine below_step (by assumption) ?_ ?_ | (show (_ : Nat) ≤ _; first | omega | (simp <;> omega)))⟩
    · have hke : k = n := by omega
      subst hke
      go_wp2
      go_ret
      exact ⟨-1, rfl, .inl ⟨rfl, HIN.out⟩, by repeat' (first | with_reducible exact Below.refl _ _ | with_reducible assumption | with_reducible refine Below.drew ?_ | with_reducible refine Below.drewN ?_ _ | with_reducible refine Below.alloc ?_ ?_ _ | with_reducible refine Below.setCell ?_ ?_ _ | with_reducible refine Below.setRow ?_ ?_ _ | with_reducible refine below_step (by assumption) ?_ ?_ | (show (_ : Nat) ≤ _; first | omega | (simp <;> omega)))⟩
end Go.Proofs.Ytbnhhjjhjjmmjaa
