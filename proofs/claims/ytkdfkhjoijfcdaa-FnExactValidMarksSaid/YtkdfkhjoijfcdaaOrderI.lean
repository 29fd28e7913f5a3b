/- The program's order of places, told to the library's sort. -/
import Derived.Test.YtkdfkhjoijfcdaaSpotS
import Derived.Test.YtkdfkhjoijfcdaaHeld
import Derived.Test.YtkdfkhjoijfcdaaShelfE
import Derived.Shelf.SlSortCmp.WholeK
namespace Go.Proofs.Ytkdfkhjoijfcdaa
open Go.RowKit Go.Shelf Go.Lib Go.Sort
set_option linter.unusedVariables false
set_option linter.unusedSimpArgs false
set_option maxRecDepth 100000
/-- Which of two numbers is less; which of two places comes first. -/
def cpI (x y : Int) : Int := if x < y then -1 else if y < x then 1 else 0
def cpS (a b : Int × Int) : Int := if cpI a.2 b.2 ≠ 0 then cpI a.2 b.2 else cpI a.1 b.1
def encS (a : Int × Int) : List Value := [.int .i8 a.1, .int .i8 a.2]
theorem cpI_lt {x y : Int} : cpI x y < 0 ↔ x < y := by
  unfold cpI
  split
  · omega
  · split <;> omega
theorem cpI_eq {x y : Int} : cpI x y = 0 ↔ x = y := by
  unfold cpI
  split
  · omega
  · split <;> omega
theorem ltS (a b : Int × Int) : ltOf cpS a b = decide (a.2 < b.2 ∨ (a.2 = b.2 ∧ a.1 < b.1)) := by
  unfold ltOf cpS
  rw [decide_eq_decide]
  by_cases h : a.2 = b.2
  · rw [if_neg (by rw [cpI_eq.2 h]; simp), cpI_lt]
    constructor
    · intro g; exact .inr ⟨h, g⟩
    · rintro (g | g)
      · omega
      · exact g.2
  · rw [if_pos (fun e => h (cpI_eq.1 e)), cpI_lt]
    constructor
    · intro g; exact .inl g
    · rintro (g | g)
      · exact g
      · exact absurd g.1 h
theorem swoS : SWO (ltOf cpS) where
  irrefl x := by rw [ltS]; simp
  trans x y z h1 h2 := by rw [ltS] at *; simp at *; omega
  ntrans x y z h1 h2 := by rw [ltS] at *; simp at *; omega
theorem isNaN_any (x : Int) (w : World) : Calls Try.prog 92 #[.int .i8 x] w fun e w' => e = .returned (.bool false) ∧ w' = w := by
  go_enter Try.func92, Try.ntmps92
  go_wp2
  go_ret
  exact ⟨rfl, rfl⟩
theorem compare_any (x y : Int) (w : World) : Calls Try.prog 78 #[.int .i8 x, .int .i8 y] w fun e w' => e = .returned (.int .i64 (cpI x y)) ∧ w' = w := by
  unfold cpI
  by_cases h1 : x < y
  · have h2 : decide (x < y) = true := decide_eq_true h1
    rw [if_pos h1]
    go_enter Try.func78, Try.ntmps78
    go_wp2_with (go_at_call 92; refine (isNaN_any _ _).mono ?_; rintro e w1 ⟨rfl, rfl⟩)
    go_ret
    exact ⟨rfl, rfl⟩
  · rw [if_neg h1]
    by_cases h3 : y < x
    · rw [if_pos h3]
      go_enter Try.func78, Try.ntmps78
      go_wp2_with (go_at_call 92; refine (isNaN_any _ _).mono ?_; rintro e w1 ⟨rfl, rfl⟩)
      go_ret
      exact ⟨rfl, rfl⟩
    · rw [if_neg h3]
      go_enter Try.func78, Try.ntmps78
      go_wp2_with (go_at_call 92; refine (isNaN_any _ _).mono ?_; rintro e w1 ⟨rfl, rfl⟩)
      go_ret
      exact ⟨rfl, rfl⟩
theorem or_any (b : Nat) (c1 c2 : Int) (w : World) (hr : rowOf w b = #[.int .i64 c1, .int .i64 c2]) (hb : b < w.heap.size) : Calls Try.prog 77 #[.slice (some ⟨b, 0, none⟩) 2 2] w fun e w' => e = .returned (.int .i64 (if c1 ≠ 0 then c1 else c2)) ∧ w' = w := by
  go_enter Try.func77, Try.ntmps77
  go_wp2
  go_loopw [8] (fun i wr => wr = w ∧ (i = .int .i64 (0 : Nat) ∨ (i = .int .i64 (1 : Nat) ∧ c1 = 0) ∨ (i = .int .i64 (2 : Nat) ∧ c1 = 0 ∧ c2 = 0))) (fun i wr => 3 - (intOf i).toNat)
  case atStart => exact ⟨rfl, .inl rfl⟩
  case round =>
    obtain ⟨rfl, rfl | ⟨rfl, h1⟩ | ⟨rfl, h1, h2⟩⟩ := hrel
    · by_cases h1 : c1 = 0
      · subst h1
        go_wp2
        go_roundw
        case rel => simp
        case measure => simp [intOf]
      · have h2 : (c1 == 0) = false := by rw [beq_eq_false_iff_ne]; exact h1
        go_wp2
        go_ret
        exact ⟨by first | rfl | rw [if_pos h1], rfl⟩
    · subst h1
      by_cases h1 : c2 = 0
      · subst h1
        go_wp2
        go_roundw
        case rel => simp
        case measure => simp [intOf]
      · have h2 : (c2 == 0) = false := by rw [beq_eq_false_iff_ne]; exact h1
        go_wp2
        go_ret
        exact ⟨rfl, rfl⟩
    · subst h1
      subst h2
      go_wp2
      go_ret
      exact ⟨rfl, rfl⟩
set_option maxHeartbeats 4000000 in
theorem inOrder_any (a b : Int × Int) (w : World) : Calls Try.prog 66 #[.agg #[.int .i8 a.1, .int .i8 a.2], .agg #[.int .i8 b.1, .int .i8 b.2]] w fun e w' => e = .returned (.int .i64 (cpS a b)) ∧ ∃ q os', w' = grow (w.drewN q) os' := by
  obtain ⟨x1, x2⟩ := a
  obtain ⟨y1, y2⟩ := b
  have HC1 := Lib.hid (fun w => compare_any x2 y2 w)
  have HC2 := Lib.hid (fun w => compare_any x1 y1 w)
  have HV0 : cpS (x1, x2) (y1, y2) = if cpI x2 y2 ≠ 0 then cpI x2 y2 else cpI x1 y1 := rfl
  generalize cpI x2 y2 = c1 at *
  generalize cpI x1 y1 = c2 at *
  have HO0 := fun b w h1 h2 => or_any b c1 c2 w h1 h2
  rw [← HV0] at HO0
  clear HV0
  generalize cpS (x1, x2) (y1, y2) = r at *
  have HO := Lib.hid HO0
  clear HO0
  go_enter Try.func66, Try.ntmps66
  go_wp2
  (refine wp_region_held (S := fun w' => rowOf w' (w.heap.size) = #[.int .i8 x1, .int .i8 x2] ∧ rowOf w' (w.heap.size + 1) = #[.int .i8 y1, .int .i8 y2]) (by kernel_rfl) ?_); (simp only [World.drew_eq]); (refine wpAnyH_take (i := 0) (v := .pointer (some ⟨w.heap.size, 1, none⟩)) rfl (by kernel_rfl) (by kernel_rfl) (by kernel_rfl) (fun _ _ _ h => h) (.inl ⟨by first | (simp [Region.wanted]; done) | rfl | simp [Region.wanted, yielded], fun w _ => by unfold execOp; go_simp⟩) ⟨by go_simp, by go_simp⟩ ?_); (try simp only [Act.put, Act.eval, List.getElem_toArray, List.getElem_cons_zero, List.getElem_cons_succ, List.setIfInBounds_toArray, List.set_cons_zero, List.set_cons_succ, Array.getD_eq_getD_getElem?, List.getElem?_toArray, List.getElem?_cons_zero, List.getElem?_cons_succ, Option.getD_some]); (refine wpAnyH_take (i := 1) rfl (by kernel_rfl) (by kernel_rfl) (by kernel_rfl) (fun _ _ _ h => h) (yieldsIf_load (v := .int .i8 x2) rfl rfl rfl (fun w ⟨h0, h1⟩ => by go_simp)) ⟨by go_simp, by go_simp⟩ ?_); (try simp only [Act.put, Act.eval, List.getElem_toArray, List.getElem_cons_zero, List.getElem_cons_succ, List.setIfInBounds_toArray, List.set_cons_zero, List.set_cons_succ, Array.getD_eq_getD_getElem?, List.getElem?_toArray, List.getElem?_cons_zero, List.getElem?_cons_succ, Option.getD_some]); (refine wpAnyH_take (i := 2) (v := .pointer (some ⟨w.heap.size + 1, 1, none⟩)) rfl (by kernel_rfl) (by kernel_rfl) (by kernel_rfl) (fun _ _ _ h => h) (.inl ⟨by first | (simp [Region.wanted]; done) | rfl | simp [Region.wanted, yielded], fun w _ => by unfold execOp; go_simp⟩) ⟨by go_simp, by go_simp⟩ ?_); (try simp only [Act.put, Act.eval, List.getElem_toArray, List.getElem_cons_zero, List.getElem_cons_succ, List.setIfInBounds_toArray, List.set_cons_zero, List.set_cons_succ, Array.getD_eq_getD_getElem?, List.getElem?_toArray, List.getElem?_cons_zero, List.getElem?_cons_succ, Option.getD_some]); (refine wpAnyH_take (i := 3) rfl (by kernel_rfl) (by kernel_rfl) (by kernel_rfl) (fun _ _ _ h => h) (yieldsIf_load (v := .int .i8 y2) rfl rfl rfl (fun w ⟨h0, h1⟩ => by go_simp)) ⟨by go_simp, by go_simp⟩ ?_); (try simp only [Act.put, Act.eval, List.getElem_toArray, List.getElem_cons_zero, List.getElem_cons_succ, List.setIfInBounds_toArray, List.set_cons_zero, List.set_cons_succ, Array.getD_eq_getD_getElem?, List.getElem?_toArray, List.getElem?_cons_zero, List.getElem?_cons_succ, Option.getD_some]); (refine wpAnyH_take (i := 5) (v := .pointer (some ⟨w.heap.size, 0, none⟩)) rfl (by kernel_rfl) (by kernel_rfl) (by kernel_rfl) (fun _ _ _ h => h) (.inl ⟨by first | (simp [Region.wanted]; done) | rfl | simp [Region.wanted, yielded], fun w _ => by unfold execOp; go_simp⟩) ⟨by go_simp, by go_simp⟩ ?_); (try simp only [Act.put, Act.eval, List.getElem_toArray, List.getElem_cons_zero, List.getElem_cons_succ, List.setIfInBounds_toArray, List.set_cons_zero, List.set_cons_succ, Array.getD_eq_getD_getElem?, List.getElem?_toArray, List.getElem?_cons_zero, List.getElem?_cons_succ, Option.getD_some]); (refine wpAnyH_take (i := 6) rfl (by kernel_rfl) (by kernel_rfl) (by kernel_rfl) (fun _ _ _ h => h) (yieldsIf_load (v := .int .i8 x1) rfl rfl rfl (fun w ⟨h0, h1⟩ => by go_simp)) ⟨by go_simp, by go_simp⟩ ?_); (try simp only [Act.put, Act.eval, List.getElem_toArray, List.getElem_cons_zero, List.getElem_cons_succ, List.setIfInBounds_toArray, List.set_cons_zero, List.set_cons_succ, Array.getD_eq_getD_getElem?, List.getElem?_toArray, List.getElem?_cons_zero, List.getElem?_cons_succ, Option.getD_some]); (refine wpAnyH_take (i := 7) (v := .pointer (some ⟨w.heap.size + 1, 0, none⟩)) rfl (by kernel_rfl) (by kernel_rfl) (by kernel_rfl) (fun _ _ _ h => h) (.inl ⟨by first | (simp [Region.wanted]; done) | rfl | simp [Region.wanted, yielded], fun w _ => by unfold execOp; go_simp⟩) ⟨by go_simp, by go_simp⟩ ?_); (try simp only [Act.put, Act.eval, List.getElem_toArray, List.getElem_cons_zero, List.getElem_cons_succ, List.setIfInBounds_toArray, List.set_cons_zero, List.set_cons_succ, Array.getD_eq_getD_getElem?, List.getElem?_toArray, List.getElem?_cons_zero, List.getElem?_cons_succ, Option.getD_some]); (refine wpAnyH_take (i := 8) rfl (by kernel_rfl) (by kernel_rfl) (by kernel_rfl) (fun _ _ _ h => h) (yieldsIf_load (v := .int .i8 y1) rfl rfl rfl (fun w ⟨h0, h1⟩ => by go_simp)) ⟨by go_simp, by go_simp⟩ ?_); (try simp only [Act.put, Act.eval, List.getElem_toArray, List.getElem_cons_zero, List.getElem_cons_succ, List.setIfInBounds_toArray, List.set_cons_zero, List.set_cons_succ, Array.getD_eq_getD_getElem?, List.getElem?_toArray, List.getElem?_cons_zero, List.getElem?_cons_succ, Option.getD_some]); (refine wpAnyH_one (i := 4) (by kernel_rfl) rfl rfl ?_); (go_simp); (first | (go_at_call 78; with_reducible refine (HC1.out _).mono ?_; rintro e w1 ⟨rfl, rfl⟩) | (go_at_call 78; with_reducible refine (HC2.out _).mono ?_; rintro e w1 ⟨rfl, rfl⟩)); (refine ⟨⟨by go_simp, by go_simp⟩, ?_⟩); (try simp only [Act.put, Act.eval, List.getElem_toArray, List.getElem_cons_zero, List.getElem_cons_succ, List.setIfInBounds_toArray, List.set_cons_zero, List.set_cons_succ, Array.getD_eq_getD_getElem?, List.getElem?_toArray, List.getElem?_cons_zero, List.getElem?_cons_succ, Option.getD_some]); (refine wpAnyH_one (i := 9) (by kernel_rfl) rfl rfl ?_); (go_simp); (first | (go_at_call 78; with_reducible refine (HC1.out _).mono ?_; rintro e w1 ⟨rfl, rfl⟩) | (go_at_call 78; with_reducible refine (HC2.out _).mono ?_; rintro e w1 ⟨rfl, rfl⟩)); (refine ⟨⟨by go_simp, by go_simp⟩, ?_⟩); (try simp only [Act.put, Act.eval, List.getElem_toArray, List.getElem_cons_zero, List.getElem_cons_succ, List.setIfInBounds_toArray, List.set_cons_zero, List.set_cons_succ, Array.getD_eq_getD_getElem?, List.getElem?_toArray, List.getElem?_cons_zero, List.getElem?_cons_succ, Option.getD_some])
  refine wpAnyH_one (i := 10) (by kernel_rfl) rfl rfl ?_
  refine oper_hid (fun RR hRR => ?_)
  go_simp
  refine hRR _ _ ⟨⟨by go_simp, by go_simp⟩, ?_⟩
  clear hRR RR
  try simp only [Act.put, Act.eval, List.getElem_toArray, List.getElem_cons_zero, List.getElem_cons_succ, List.setIfInBounds_toArray, List.set_cons_zero, List.set_cons_succ, Array.getD_eq_getD_getElem?, List.getElem?_toArray, List.getElem?_cons_zero, List.getElem?_cons_succ, Option.getD_some]
  refine wpAnyH_one (i := 11) (by kernel_rfl) rfl rfl ?_
  refine oper_hid (fun RR hRR => ?_)
  go_simp
  go_at_call 77
  refine (HO.out _ _ (by go_simp) (by simp)).mono ?_
  rintro e w2 ⟨rfl, rfl⟩
  refine hRR _ _ ⟨⟨by go_simp, by go_simp⟩, ?_⟩
  clear hRR RR
  try simp only [Act.put, Act.eval, List.getElem_toArray, List.getElem_cons_zero, List.getElem_cons_succ, List.setIfInBounds_toArray, List.set_cons_zero, List.set_cons_succ, Array.getD_eq_getD_getElem?, List.getElem?_toArray, List.getElem?_cons_zero, List.getElem?_cons_succ, Option.getD_some]
  refine wpAnyH_take (i := 12) rfl (by kernel_rfl) (by kernel_rfl) (by kernel_rfl) (fun _ _ _ h => h) (yieldsIf_assign rfl rfl) ⟨by go_simp, by go_simp⟩ ?_
  try simp only [Act.put, Act.eval, List.getElem_toArray, List.getElem_cons_zero, List.getElem_cons_succ, List.setIfInBounds_toArray, List.set_cons_zero, List.set_cons_succ, Array.getD_eq_getD_getElem?, List.getElem?_toArray, List.getElem?_cons_zero, List.getElem?_cons_succ, Option.getD_some]
  refine wpAnyH_done (by kernel_rfl) ?_ _
  go_wp2
  go_ret
  refine ⟨rfl, 1, #[.cells #[.int .i8 x1, .int .i8 x2] 75, .cells #[.int .i8 y1, .int .i8 y2] 75, .cells #[.int .i64 c1, .int .i64 c2] 3], ?_⟩
  rw [alloc_eq_grow, alloc_eq_grow, alloc_eq_grow, grow_grow, grow_grow]
  rfl
end Go.Proofs.Ytkdfkhjoijfcdaa
