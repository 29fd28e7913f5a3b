/- Two spots compared: the library's comparing of bytes, the first that is not 0, the order of spots. -/
import Derived.Test.YtbnhhjjhjjmmjaaBase
import Derived.Lib.Hide
import Derived.StillTailTactics
import Derived.Sort.Grow
namespace Go.Proofs.Ytbnhhjjhjjmmjaa
open Go.RowKit Go.Sort
set_option linter.unusedVariables false
set_option linter.unusedSimpArgs false
set_option maxRecDepth 100000
def cmpI (a b : Int) : Int := if a < b then -1 else if b < a then 1 else 0
def orI (a b : Int) : Int := if a = 0 then b else a
def ordI (x1 y1 x2 y2 : Int) : Int := orI (cmpI y1 y2) (cmpI x1 x2)
theorem cmpI_lt {a b : Int} (h : a < b) : cmpI a b = -1 := if_pos h
theorem cmpI_gt {a b : Int} (h : b < a) : cmpI a b = 1 := by unfold cmpI; rw [if_neg (by omega), if_pos h]
theorem cmpI_eq {a b : Int} (h : a = b) : cmpI a b = 0 := by unfold cmpI; rw [if_neg (by omega), if_neg (by omega)]
theorem cmpI_in (a b : Int) : -1 ≤ cmpI a b ∧ cmpI a b ≤ 1 := by unfold cmpI; split; omega; split <;> omega
/-- One spot comes ahead of another one. -/
theorem ordI_neg (x1 y1 x2 y2 : Int) : ordI x1 y1 x2 y2 < 0 ↔ y1 < y2 ∨ y1 = y2 ∧ x1 < x2 := by
  unfold ordI orI cmpI
  repeat' split
  all_goals omega
theorem below_grew (w : World) (q : Nat) (os : Array Obj) : Below w.heap.size w (grow (w.drewN q) os) :=
  ⟨rfl, rfl, rfl, by simp, fun b hb => by
    show (w.heap ++ os)[b]? = w.heap[b]?
    rw [Array.getElem?_append, if_pos hb]⟩
theorem compare8_any (a b : Int) (w : World) : Calls Try.prog 130 #[.int .i8 a, .int .i8 b] w fun e w' => e = .returned (.int .i64 (cmpI a b)) ∧ w' = w := by
  rcases Int.lt_trichotomy a b with h | h | h
  · rw [cmpI_lt h]
    have h2 : ¬ b < a := by omega
    go_enter Try.func130, Try.ntmps130
    go_wp2
    go_ret
    exact ⟨rfl, rfl⟩
  · rw [cmpI_eq h]
    subst h
    go_enter Try.func130, Try.ntmps130
    go_wp2
    go_ret
    exact ⟨rfl, rfl⟩
  · rw [cmpI_gt h]
    have h2 : ¬ a < b := by omega
    go_enter Try.func130, Try.ntmps130
    go_wp2
    go_ret
    exact ⟨rfl, rfl⟩
set_option maxHeartbeats 1000000 in
theorem or_any (a b : Int) (g : Nat) (w : World) (hr : rowOf w g = #[.int .i64 a, .int .i64 b]) (hg : g < w.heap.size) : Calls Try.prog 129 #[.slice (some ⟨g, 0, none⟩) 2 2] w fun e w' => e = .returned (.int .i64 (orI a b)) ∧ w' = w := by
  by_cases ha : a = 0
  · rw [show orI a b = b from if_pos ha]
    subst ha
    by_cases hb : b = 0
    · subst hb
      go_enter Try.func129, Try.ntmps129
      go_wp2
      refine wp_loop_rounds 3 ?_; rw [rounds_succ]
      go_wp2
      (rw [rounds_succ])
      go_wp2
      (rw [rounds_succ])
      go_wp2
      go_ret
      exact ⟨rfl, rfl⟩
    · have hb2 : (b != 0) = true := by simpa using hb
      clear hb
      go_enter Try.func129, Try.ntmps129
      go_wp2
      refine wp_loop_rounds 3 ?_; rw [rounds_succ]
      go_wp2
      (rw [rounds_succ])
      go_wp2
      go_ret
      exact ⟨rfl, rfl⟩
  · rw [show orI a b = a from if_neg ha]
    have ha2 : (a != 0) = true := by simpa using ha
    clear ha
    go_enter Try.func129, Try.ntmps129
    go_wp2
    refine wp_loop_rounds 3 ?_; rw [rounds_succ]
    go_wp2
    go_ret
    exact ⟨rfl, rfl⟩
set_option maxHeartbeats 2000000 in
/-- Two boxes and one slice are laid, nothing turns. -/
theorem inOrder_grow (x1 y1 x2 y2 : Int) (w : World) : Calls Try.prog 116 #[.agg #[.int .i8 x1, .int .i8 y1], .agg #[.int .i8 x2, .int .i8 y2]] w fun e w' => e = .returned (.int .i64 (ordI x1 y1 x2 y2)) ∧ ∃ q os, w' = grow (w.drewN q) os := by
  have HC1 := Lib.hid (fun w => compare8_any y1 y2 w)
  have HC2 := Lib.hid (fun w => compare8_any x1 x2 w)
  unfold ordI
  generalize cmpI y1 y2 = a at *
  generalize cmpI x1 x2 = b at *
  go_enter Try.func116, Try.ntmps116
  go_wp2
  refine wp_region_still_tail 10 (by kernel_rfl) (by kernel_rfl) ?_
  simp only [List.take_succ_cons, List.take_zero, List.drop_succ_cons, List.drop_zero]
  change wpStill _ _ (World.drew _) _ _ _
  still_step
  still_step
  still_step
  still_step
  still_call (HC1.out _)
  still_step
  still_step
  still_step
  still_step
  still_call (HC2.out _)
  refine wpStill_nil ?_
  change wpList _ _ _ _ _ (World.drew _)
  go_wp2_with (go_at_call 129; refine (or_any a b _ _ (by (go_simp <;> (intros; omega))) (by first | omega | (simp <;> omega))).mono ?_; rintro e w1 ⟨rfl, rfl⟩)
  go_ret
  exact ⟨rfl, 1, _, by rw [alloc_eq_grow, alloc_eq_grow, alloc_eq_grow, grow_grow, grow_grow]; rfl⟩
theorem inOrder_any (x1 y1 x2 y2 : Int) (w : World) : Calls Try.prog 116 #[.agg #[.int .i8 x1, .int .i8 y1], .agg #[.int .i8 x2, .int .i8 y2]] w fun e w' => e = .returned (.int .i64 (ordI x1 y1 x2 y2)) ∧ Below w.heap.size w w' :=
  (inOrder_grow x1 y1 x2 y2 w).mono fun e w' ⟨he, q, os, hw⟩ => ⟨he, by subst hw; exact below_grew _ _ _⟩
end Go.Proofs.Ytbnhhjjhjjmmjaa
