/- Slices of sheets: copied, sized and compared by the statements; compared by the program and the reference. -/
import Derived.Test.YtkdfkhjoijfcdaaSlV
import Derived.Test.YtkdfkhjoijfcdaaShapes
import Derived.Test.YtkdfkhjoijfcdaaEq
import Derived.Laws.MakeOwn
import Derived.Lib.SliceRun
import Derived.StillTailTactics
namespace Go.Proofs.Ytkdfkhjoijfcdaa
open Go.RowKit
set_option linter.unusedVariables false
set_option linter.unusedSimpArgs false
set_option maxRecDepth 100000
theorem sheet_info : ∃ i z, Try.prog.info? 39 = some i ∧ i.zero = some z ∧ i.size = 266 ∧ i.bytes = 522 ∧ z.cells.size = 266 := by
  have h : (match Try.prog.info? 39 with | some i => (match i.zero with | some z => i.size == 266 && i.bytes == 522 && z.cells.size == 266 | none => false) | none => false) = true := by kernel_rfl
  split at h
  · rename_i i hi
    split at h
    · rename_i z hz
      simp only [Bool.and_eq_true, beq_iff_eq] at h
      exact ⟨i, z, hi, hz, h.1.1, h.1.2, h.2⟩
    · cases h
  · cases h
theorem stack_made : ∃ Z : Nat → Array Value, ∀ n, (Z n).size = n * 266 ∧ (n ≤ 1048576 → ∀ w : World, (Instr.makeSlice 35 (.int .i64 (n : Int)) (.int .i64 (n : Int))).run Try.prog w = .ok (.slice (some ⟨w.heap.size, 0, none⟩) n n) (w.alloc (.cells (Z n) 39))) := by
  obtain ⟨i0, z0, hi0, hz0, hs0, hb0, hc0⟩ := sheet_info
  refine ⟨fun n => madeCells z0.cells (n * 266), fun n => ⟨size_madeCells _ _, fun hn w => ?_⟩⟩
  have := run_make (P := Try.prog) w 35 39 i0 z0 Try.underlying35 hi0 hz0 .i64 .i64 n n (by omega) (by omega) (by rw [hb0]; omega) (by omega)
  rw [hs0] at this
  simpa using this
/-- One more sheet laid into a row. -/
theorem put_sheet {d : Array Value} {n k : Nat} {F : Nat → Nat → Int} (hds : d.size = n * 266) (hk : k < n) (h : ∀ i, i < k → ∀ j, j < 266 → d[i * 266 + j]? = some (shV F i j)) :
    ∀ i, i < k + 1 → ∀ j, j < 266 → (splice d (k * 266) (kc sk 266 (F k)))[i * 266 + j]? = some (shV F i j) := by
  intro i hi j hj
  rw [splice_get _ _ _ _ (by rw [kc_size]; omega), kc_size]
  by_cases hik : i = k
  · subst hik
    rw [if_pos (by omega), show i * 266 + j - i * 266 = j by omega, kc_get, if_pos hj]; rfl
  · rw [if_neg (by omega)]
    exact h i (by omega) j hj
set_option maxHeartbeats 2000000 in
theorem toStack_full (v : Value) (n : Nat) (F : Nat → Nat → Int) (hn : n ≤ 1048576) (w : World) (h : SlV 266 w v n (shV F)) :
    Calls Try.prog 7 #[v] w fun e w' => ∃ g, e = .returned (.slice (some ⟨g, 0, none⟩) n n) ∧ OwnV 266 w' w.heap.size (.slice (some ⟨g, 0, none⟩) n n) n (shV F) ∧ Below w.heap.size w w' := by
  obtain ⟨Z, hZ⟩ := stack_made
  have hzs := (hZ n).1
  have hmk := (hZ n).2 hn
  clear hZ
  generalize Z n = z at hzs hmk
  obtain ⟨a, cap, rfl⟩ := h.len
  have HH := Lib.hid h
  clear h
  go_enter Try.func7, Try.ntmps7
  go_wp2
  go_loopw [4] (fun i wr => ∃ (k : Nat) (d : Array Value), k ≤ n ∧ i = .int .i64 k ∧ Below w.heap.size w wr ∧ w.heap.size + 1 ≤ wr.heap.size ∧ frOf wr w.heap.size = (0, 0) ∧ rowOf wr w.heap.size = d ∧ d.size = n * 266 ∧ ∀ i, i < k → ∀ j, j < 266 → d[i * 266 + j]? = some (shV F i j)) (fun i wr => n - (intOf i).toNat)
  case atStart => exact ⟨0, z, by omega, rfl, by repeat' (first | with_reducible exact Below.refl _ _ | with_reducible assumption | with_reducible refine Below.drew ?_ | with_reducible refine Below.drewN ?_ _ | with_reducible refine Below.alloc ?_ ?_ _ | with_reducible refine Below.setCell ?_ ?_ _ | with_reducible refine Below.setRow ?_ ?_ _ | with_reducible refine below_step (by assumption) ?_ ?_ | (show (_ : Nat) ≤ _; first | omega | (simp <;> omega))), by simp, by (go_simp <;> (intros; omega)), by (go_simp <;> (intros; omega)), hzs, fun j hj => absurd hj (by omega)⟩
  case round =>
    obtain ⟨k, d, hk, rfl, hb, hsz, hfr, hrd, hds, hd⟩ := hrel
    have HD := Lib.hid hd
    clear hd
    by_cases hlt : k < n
    · obtain ⟨g, o, cap', hv, hg, hRs, hcells⟩ := HH.out.pos (by omega)
      simp only [Value.slice.injEq] at hv
      obtain ⟨rfl, -, rfl⟩ := hv
      have hr1 := keep_row hb hg
      have hw1 : g < wr.heap.size := Nat.lt_of_lt_of_le hg hb.size
      have he : rowExt (rowOf w g) (o + k * 266) 266 = kc sk 266 (F k) := ext_sheet (by omega) (hcells k hlt)
      have HP := Lib.hid (put_sheet hds hlt HD.out)
      obtain ⟨R, hR⟩ : ∃ R, rowOf w g = R := ⟨_, rfl⟩
      rw [hR] at hr1 he hRs
      clear hcells hR
      go_wp2_with ((go_at_call 8; refine (toSheet_any _ _).mono ?_; rintro e w1 ⟨rfl, hb1⟩; have r1 := keep_rowA hb1; have f1 := keep_frA hb1; have s1 := hb1.size; (try simp only [World.size_alloc, World.size_setCell, setRow_size, World.size_drew, size_drewNm] at r1 f1 s1)))
      go_roundw
      case rel => first | exact ⟨k + 1, splice d (k * 266) (kc sk 266 (F k)), by omega, by go_num, by repeat' (first | with_reducible exact Below.refl _ _ | with_reducible assumption | with_reducible refine Below.drew ?_ | with_reducible refine Below.drewN ?_ _ | with_reducible refine Below.alloc ?_ ?_ _ | with_reducible refine Below.setCell ?_ ?_ _ | with_reducible refine Below.setRow ?_ ?_ _ | with_reducible refine below_step (by assumption) ?_ ?_ | (show (_ : Nat) ≤ _; first | omega | (simp <;> omega))), (by first | omega | (simp <;> omega)), by (go_simp <;> (intros; omega)), by (go_simp <;> (intros; omega)), by rw [splice_size]; exact hds, HP.out⟩ | ((repeat (with_reducible apply Exists.intro)); refine And.intro ?_ ?_; rotate_left; (focus ((repeat' (with_reducible apply And.intro)) <;> rfl)); exact ⟨k + 1, splice d (k * 266) (kc sk 266 (F k)), by omega, by go_num, by repeat' (first | with_reducible exact Below.refl _ _ | with_reducible assumption | with_reducible refine Below.drew ?_ | with_reducible refine Below.drewN ?_ _ | with_reducible refine Below.alloc ?_ ?_ _ | with_reducible refine Below.setCell ?_ ?_ _ | with_reducible refine Below.setRow ?_ ?_ _ | with_reducible refine below_step (by assumption) ?_ ?_ | (show (_ : Nat) ≤ _; first | omega | (simp <;> omega))), (by first | omega | (simp <;> omega)), by (go_simp <;> (intros; omega)), by (go_simp <;> (intros; omega)), by rw [splice_size]; exact hds, HP.out⟩)
      case measure => simp [intOf]; omega
    · have hke : k = n := by omega
      subst hke
      go_wp2
      go_ret
      exact ⟨_, rfl, .inr ⟨_, _, rfl, Nat.le_refl _, by omega, hfr, by rw [hrd]; omega, fun i hi j hj => by rw [hrd]; exact HD.out i hi j hj⟩, by repeat' (first | with_reducible exact Below.refl _ _ | with_reducible assumption | with_reducible refine Below.drew ?_ | with_reducible refine Below.drewN ?_ _ | with_reducible refine Below.alloc ?_ ?_ _ | with_reducible refine Below.setCell ?_ ?_ _ | with_reducible refine Below.setRow ?_ ?_ _ | with_reducible refine below_step (by assumption) ?_ ?_ | (show (_ : Nat) ≤ _; first | omega | (simp <;> omega)))⟩
theorem toStack_any (v : Value) (n : Nat) (F : Nat → Nat → Int) (hn : n ≤ 1048576) (w : World) (h : SlV 266 w v n (shV F)) :
    Calls Try.prog 7 #[v] w fun e w' => ∃ v', e = .returned v' ∧ OwnV 266 w' w.heap.size v' n (shV F) ∧ Below w.heap.size w w' :=
  (toStack_full v n F hn w h).mono fun _ _ ⟨_, h1, h2, h3⟩ => ⟨_, h1, h2, h3⟩
theorem szStack_any (v : Value) (n : Nat) (V : Nat → Nat → Value) (left : Int) (hl : 0 ≤ left ∧ left ≤ 1048576) (hn : n ≤ 9223372036854775807) (w : World) (h : SlV 266 w v n V) :
    Calls Try.prog 5 #[v, .int .i64 left] w fun e w' => e = .returned (.int .i64 (if left < (n : Int) then -1 else left - (n : Int))) ∧ Below w.heap.size w w' := by
  obtain ⟨a, cap, rfl⟩ := h.len
  clear h
  by_cases hlt : left < (n : Int)
  · rw [if_pos hlt]
    go_enter Try.func5, Try.ntmps5
    go_wp2
    go_ret
    exact ⟨rfl, by repeat' (first | with_reducible exact Below.refl _ _ | with_reducible assumption | with_reducible refine Below.drew ?_ | with_reducible refine Below.drewN ?_ _ | with_reducible refine Below.alloc ?_ ?_ _ | with_reducible refine Below.setCell ?_ ?_ _ | with_reducible refine Below.setRow ?_ ?_ _ | with_reducible refine below_step (by assumption) ?_ ?_ | (show (_ : Nat) ≤ _; first | omega | (simp <;> omega)))⟩
  · rw [if_neg hlt]
    go_enter Try.func5, Try.ntmps5
    go_wp2
    go_ret
    exact ⟨rfl, by repeat' (first | with_reducible exact Below.refl _ _ | with_reducible assumption | with_reducible refine Below.drew ?_ | with_reducible refine Below.drewN ?_ _ | with_reducible refine Below.alloc ?_ ?_ _ | with_reducible refine Below.setCell ?_ ?_ _ | with_reducible refine Below.setRow ?_ ?_ _ | with_reducible refine below_step (by assumption) ?_ ?_ | (show (_ : Nat) ≤ _; first | omega | (simp <;> omega)))⟩
set_option maxHeartbeats 2000000 in
theorem eqStack_own (v1 v2 : Value) (n b1 b2 : Nat) (F : Nat → Nat → Int) (hn : n < 1099511627776) (w : World) (h1 : OwnV 266 w b1 v1 n (shV F)) (h2 : OwnV 266 w b2 v2 n (shV F)) :
    Calls Try.prog 10 #[v1, v2] w fun e w' => e = .returned (.bool true) ∧ Below w.heap.size w w' := by
  rcases Nat.eq_zero_or_pos n with hz | hp
  · subst hz
    obtain ⟨a1, c1, rfl⟩ := h1.len
    obtain ⟨a2, c2, rfl⟩ := h2.len
    clear h1 h2
    go_enter Try.func10, Try.ntmps10
    go_wp2
    go_loopw [5] (fun i wr => i = .int .i64 (0 : Nat) ∧ Below w.heap.size w wr) (fun i wr => 0)
    case atStart => exact ⟨rfl, by repeat' (first | with_reducible exact Below.refl _ _ | with_reducible assumption | with_reducible refine Below.drew ?_ | with_reducible refine Below.drewN ?_ _ | with_reducible refine Below.alloc ?_ ?_ _ | with_reducible refine Below.setCell ?_ ?_ _ | with_reducible refine Below.setRow ?_ ?_ _ | with_reducible refine below_step (by assumption) ?_ ?_ | (show (_ : Nat) ≤ _; first | omega | (simp <;> omega)))⟩
    case round =>
      obtain ⟨rfl, hb⟩ := hrel
      go_wp2
      go_ret
      exact ⟨rfl, by repeat' (first | with_reducible exact Below.refl _ _ | with_reducible assumption | with_reducible refine Below.drew ?_ | with_reducible refine Below.drewN ?_ _ | with_reducible refine Below.alloc ?_ ?_ _ | with_reducible refine Below.setCell ?_ ?_ _ | with_reducible refine Below.setRow ?_ ?_ _ | with_reducible refine below_step (by assumption) ?_ ?_ | (show (_ : Nat) ≤ _; first | omega | (simp <;> omega)))⟩
  · obtain ⟨g1, c1, rfl, -, hg1, -, hs1, ht1⟩ := h1.pos hp
    obtain ⟨g2, c2, rfl, -, hg2, -, hs2, ht2⟩ := h2.pos hp
    have HX := Lib.hid (fun k (hk : k < n) => And.intro (ext_sheet (o := k * 266) (by omega) (ht1 k hk)) (ext_sheet (o := k * 266) (by omega) (ht2 k hk)))
    obtain ⟨R1, hR1⟩ : ∃ R, rowOf w g1 = R := ⟨_, rfl⟩
    obtain ⟨R2, hR2⟩ : ∃ R, rowOf w g2 = R := ⟨_, rfl⟩
    rw [hR1, hR2] at HX
    rw [hR1] at hs1
    rw [hR2] at hs2
    clear h1 h2 ht1 ht2
    go_enter Try.func10, Try.ntmps10
    go_wp2
    go_loopw [5] (fun i wr => ∃ k : Nat, k ≤ n ∧ i = .int .i64 k ∧ Below w.heap.size w wr) (fun i wr => n - (intOf i).toNat)
    case atStart => exact ⟨0, by omega, rfl, by repeat' (first | with_reducible exact Below.refl _ _ | with_reducible assumption | with_reducible refine Below.drew ?_ | with_reducible refine Below.drewN ?_ _ | with_reducible refine Below.alloc ?_ ?_ _ | with_reducible refine Below.setCell ?_ ?_ _ | with_reducible refine Below.setRow ?_ ?_ _ | with_reducible refine below_step (by assumption) ?_ ?_ | (show (_ : Nat) ≤ _; first | omega | (simp <;> omega)))⟩
    case round =>
      obtain ⟨k, hk, rfl, hb⟩ := hrel
      have hr1 := (keep_row hb hg1).trans hR1
      have hr2 := (keep_row hb hg2).trans hR2
      have hw1 : g1 < wr.heap.size := Nat.lt_of_lt_of_le hg1 hb.size
      have hw2 : g2 < wr.heap.size := Nat.lt_of_lt_of_le hg2 hb.size
      have hsz := hb.size
      clear hR1 hR2
      by_cases hlt : k < n
      · obtain ⟨e1, e2⟩ := HX.out k hlt
        go_wp2
        go_still_tail 8, (by kernel_rfl)
        change wpList _ _ _ _ _ (World.drew _)
        go_wp2_with ((go_at_call 31; refine (eqSheet_same _ _).mono ?_; rintro e w1 ⟨rfl, hb1⟩; have r1 := keep_rowA hb1; have f1 := keep_frA hb1; have s1 := hb1.size; (try simp only [World.size_alloc, World.size_setCell, setRow_size, World.size_drew, size_drewNm] at r1 f1 s1)))
        go_roundw
        case rel => first | exact ⟨k + 1, by omega, by go_num, by repeat' (first | with_reducible exact Below.refl _ _ | with_reducible assumption | with_reducible refine Below.drew ?_ | with_reducible refine Below.drewN ?_ _ | with_reducible refine Below.alloc ?_ ?_ _ | with_reducible refine Below.setCell ?_ ?_ _ | with_reducible refine Below.setRow ?_ ?_ _ | with_reducible refine below_step (by assumption) ?_ ?_ | (show (_ : Nat) ≤ _; first | omega | (simp <;> omega)))⟩ | ((repeat (with_reducible apply Exists.intro)); refine And.intro ?_ ?_; rotate_left; (focus ((repeat' (with_reducible apply And.intro)) <;> rfl)); exact ⟨k + 1, by omega, by go_num, by repeat' (first | with_reducible exact Below.refl _ _ | with_reducible assumption | with_reducible refine Below.drew ?_ | with_reducible refine Below.drewN ?_ _ | with_reducible refine Below.alloc ?_ ?_ _ | with_reducible refine Below.setCell ?_ ?_ _ | with_reducible refine Below.setRow ?_ ?_ _ | with_reducible refine below_step (by assumption) ?_ ?_ | (show (_ : Nat) ≤ _; first | omega | (simp <;> omega)))⟩)
        case measure => simp [intOf]; omega
      · clear hr1 hr2
        go_wp2
        go_ret
        exact ⟨rfl, by repeat' (first | with_reducible exact Below.refl _ _ | with_reducible assumption | with_reducible refine Below.drew ?_ | with_reducible refine Below.drewN ?_ _ | with_reducible refine Below.alloc ?_ ?_ _ | with_reducible refine Below.setCell ?_ ?_ _ | with_reducible refine Below.setRow ?_ ?_ _ | with_reducible refine below_step (by assumption) ?_ ?_ | (show (_ : Nat) ≤ _; first | omega | (simp <;> omega)))⟩
/-- Sheets alike, place by place. -/
def SameTo (F G : Nat → Nat → Int) (k : Nat) : Prop := ∀ i, i < k → eqRow 266 (F i) (G i) = true
open Classical in
noncomputable def sameSt (n m : Nat) (F G : Nat → Nat → Int) : Bool := decide (n = m) && decide (SameTo F G n)
open Classical in
theorem sameSt_len {n m : Nat} {F G : Nat → Nat → Int} (h : ¬ n = m) : sameSt n m F G = false := by unfold sameSt; rw [decide_eq_false h]; rfl
open Classical in
theorem sameSt_no {n k : Nat} {F G : Nat → Nat → Int} (hk : k < n) (h : eqRow 266 (F k) (G k) = false) : sameSt n n F G = false := by
  unfold sameSt
  rw [decide_eq_false (p := SameTo F G n) (fun g => by have := g k hk; rw [h] at this; cases this), Bool.and_false]
open Classical in
theorem sameSt_yes {n : Nat} {F G : Nat → Nat → Int} (h : SameTo F G n) : sameSt n n F G = true := by
  unfold sameSt
  rw [decide_eq_true h, decide_eq_true rfl]; rfl
theorem same_next {k : Nat} {F G : Nat → Nat → Int} (h : SameTo F G k) (g : eqRow 266 (F k) (G k) = true) : SameTo F G (k + 1) := fun i h1 => by
  rcases Nat.lt_succ_iff_lt_or_eq.1 h1 with h2 | rfl
  · exact h i h2
  · exact g
end Go.Proofs.Ytkdfkhjoijfcdaa
