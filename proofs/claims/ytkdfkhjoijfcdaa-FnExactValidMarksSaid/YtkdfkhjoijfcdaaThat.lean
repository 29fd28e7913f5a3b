/- The cells of a sheet that something holds for: deleted from the list of all cells, in place. -/
import Derived.Test.YtkdfkhjoijfcdaaThatV
import Derived.Test.YtkdfkhjoijfcdaaWaterI
import Derived.Test.YtkdfkhjoijfcdaaSpotS
import Derived.Lib.SliceRun
namespace Go.Proofs.Ytkdfkhjoijfcdaa
open Go.RowKit
set_option linter.unusedVariables false
set_option linter.unusedSimpArgs false
set_option maxRecDepth 100000
/-- A slice of rows is cleared. -/
theorem run_clear_wide {P : Program} (w : World) (t e ty : TypeId) (z : Value) (s : Nat) (ht : P.underlying t = some (.slice e)) (hv : ∀ w, (zeroValue e).run P w = .ok z w) (hz : z.cells.size = s) (h1 : ∀ (n : Nat), ∀ u ∈ (Builtin.zeroCells z.cells n).toList, u.oneCell' = true) (b o n c : Nat) (hn : 0 < n)
    (hfit : o + n * s ≤ (rowOf w b).size) (hfr : frOf w b = (0, 0)) :
    (Builtin.clear_ #[t] ty #[.slice (some ⟨b, o, none⟩) n c]).run P w = .ok (.tuple #[]) (w.setRow b (splice (rowOf w b) o (Builtin.zeroCells z.cells n))) := by
  have hl : (Builtin.zeroCells z.cells n).toList.length = n * s := by rw [Array.length_toList, size_zeroCells, hz]
  have hst := run_storeCells_cells (P := P) b o (Builtin.zeroCells z.cells n).toList 0 w (fun j hj => by
      rw [cell_row, Nat.add_zero]
      rw [hl] at hj
      rw [Array.getElem?_eq_getElem (by omega)]; rfl) (fun j hj => by rw [frozen_row, hfr]; simp) (h1 n)
  simp only [Nat.add_zero] at hst
  obtain ⟨m, rfl⟩ : ∃ m, n = m + 1 := ⟨n - 1, by omega⟩
  rw [setCells_eq_setRow b _ o w (by rw [hl]; omega), Array.toArray_toList] at hst
  simp [Builtin.clear_, run_underlying ht, hv, hst]
theorem spot_zero : ∃ z, (∀ w, (zeroValue 75).run Try.prog w = .ok z w) ∧ z.cells.size = 2 ∧ ∀ (n : Nat), ∀ u ∈ (Builtin.zeroCells z.cells n).toList, u.oneCell' = true := by
  have h : (match Try.prog.info? 75 with | some i => (match i.zero with | some z => z.cells.size == 2 && z.cells.all (·.oneCell') | none => false) | none => false) = true := by kernel_rfl
  split at h
  · rename_i i hi
    split at h
    · rename_i z hz
      simp only [Bool.and_eq_true, beq_iff_eq] at h
      refine ⟨z, fun w => by simp [zeroValue, typeInfo, hi, hz], h.1, fun n u hu => ?_⟩
      simp only [Builtin.zeroCells, Array.toList_map, List.mem_map] at hu
      obtain ⟨i, -, rfl⟩ := hu
      have hlt : i % z.cells.size < z.cells.size := Nat.mod_lt _ (by omega)
      rw [getElem!_pos z.cells _ hlt]
      exact (Array.all_eq_true.1 h.2) _ hlt
    · cases h
  · cases h
/-- All old blocks but one read as before. -/
def Keeps (g : Nat) (w w2 : World) : Prop := w.heap.size ≤ w2.heap.size ∧ ∀ b, b ≠ g → b < w.heap.size → rowOf w2 b = rowOf w b
theorem keeps_below {g : Nat} {w w2 : World} (h : Below w.heap.size w w2) : Keeps g w w2 := ⟨h.size, fun b _ hb => keep_row h hb⟩
theorem keeps_after {g : Nat} {w w2 w3 : World} (h : Keeps g w w2) (h2 : Below w2.heap.size w2 w3) : Keeps g w w3 := ⟨Nat.le_trans h.1 h2.size, fun b hb hbw => (keep_row h2 (Nat.lt_of_lt_of_le hbw h.1)).trans (h.2 b hb hbw)⟩
theorem sel_lt {U : Nat → Bool} {i : Nat} (hU : U i = false) : ∀ j, i < j → selN U j < j
  | 0, h => absurd h (by omega)
  | j + 1, h => by
    rcases Nat.lt_succ_iff_lt_or_eq.1 h with h1 | rfl
    · have := sel_lt hU j h1
      rcases Bool.eq_false_or_eq_true (U j) with e | e
      · rw [(sel_yes (W := 0) e).2]; omega
      · rw [(sel_no (W := 0) e).2]; omega
    · have := selN_le U i
      rw [(sel_no (W := 0) hU).2]; omega
theorem del_put {d : Array Value} {U : Nat → Bool} {W j : Nat} (hU : U j = true) (hds : selN U j * 2 + 1 < d.size) (hd : ∀ t, t < selN U j * 2 → d[t]? = (selL U W j)[t]?) :
    ∀ t, t < selN U (j + 1) * 2 → ((d.setIfInBounds (selN U j * 2) (.int .i8 ((j % W : Nat) : Int))).setIfInBounds (selN U j * 2 + 1) (.int .i8 ((j / W : Nat) : Int)))[t]? = (selL U W (j + 1))[t]? := by
  intro t ht
  obtain ⟨h1, h2⟩ := sel_yes (U := U) (W := W) hU
  have hl := selL_len U W j
  rw [h1]
  rw [h2] at ht
  rw [Array.getElem?_setIfInBounds, Array.getElem?_setIfInBounds]
  by_cases e1 : selN U j * 2 + 1 = t
  · subst e1
    rw [if_pos rfl, if_pos (by simp; omega), List.getElem?_append_right (by omega), hl, show selN U j * 2 + 1 - selN U j * 2 = 1 by omega]; rfl
  · rw [if_neg e1]
    by_cases e2 : selN U j * 2 = t
    · subst e2
      rw [if_pos rfl, if_pos (by omega), List.getElem?_append_right (by omega), hl, Nat.sub_self]; rfl
    · rw [if_neg e2, hd t (by omega), List.getElem?_append_left (by omega)]
end Go.Proofs.Ytkdfkhjoijfcdaa
