/- Several texts in one: OrderI SetS That Ins Stack InsI SetI ForP. -/
import Derived.Test.YtejnejplofddnaaGreatDoorGqC
import Derived.Test.YtejnejplofddnaaGreatDoorHeld
import Derived.Test.YtejnejplofddnaaGreatDoorShelfE
import Derived.Shelf.SlSortCmp.WholeK
import Derived.Test.YtejnejplofddnaaGreatDoorGqA
import Derived.Test.YtejnejplofddnaaGreatDoorWaterI
import Derived.Lib.SliceRun
import Derived.Laws.CopyRow
import Derived.Laws.AppendOwn
import Derived.Lib.Overlaps
import Derived.Deep.RegionLaw
import Derived.Test.YtejnejplofddnaaGreatDoorShapes
import Derived.Test.YtejnejplofddnaaGreatDoorGqB
import Derived.Laws.MakeOwn
import Derived.StillTailTactics
import Derived.Lib.AppendZeros
import Derived.Deep.QuietTactic
/- The program's order of places, told to the library's sort. -/
namespace Go.Proofs.YtejnejplofddnaaGreatDoor
open Go.RowKit Go.Shelf Go.Lib Go.Sort
set_option linter.unusedVariables false
set_option linter.unusedSimpArgs false
set_option maxRecDepth 100000
/-- Which of two numbers is less; which of two places comes first. -/
def cpI (x y : Int) : Int := if x < y then -1 else if y < x then 1 else 0
def cpS (a b : Int × Int) : Int := if cpI a.2 b.2 ≠ 0 then cpI a.2 b.2 else cpI a.1 b.1
def encS (a : Int × Int) : List Value := [.int .i8 a.1, .int .i8 a.2]
theorem cpI_lt {x y : Int} : cpI x y < 0 ↔ x < y := by
  unfold cpI
  split
  · omega
  · split <;> omega
theorem cpI_eq {x y : Int} : cpI x y = 0 ↔ x = y := by
  unfold cpI
  split
  · omega
  · split <;> omega
theorem ltS (a b : Int × Int) : ltOf cpS a b = decide (a.2 < b.2 ∨ (a.2 = b.2 ∧ a.1 < b.1)) := by
  unfold ltOf cpS
  rw [decide_eq_decide]
  by_cases h : a.2 = b.2
  · rw [if_neg (by rw [cpI_eq.2 h]; simp), cpI_lt]
    constructor
    · intro g; exact .inr ⟨h, g⟩
    · rintro (g | g)
      · omega
      · exact g.2
  · rw [if_pos (fun e => h (cpI_eq.1 e)), cpI_lt]
    constructor
    · intro g; exact .inl g
    · rintro (g | g)
      · exact g
      · exact absurd g.1 h
theorem swoS : SWO (ltOf cpS) where
  irrefl x := by rw [ltS]; simp
  trans x y z h1 h2 := by rw [ltS] at *; simp at *; omega
  ntrans x y z h1 h2 := by rw [ltS] at *; simp at *; omega
theorem isNaN_any (x : Int) (w : World) : Calls Tryz.prog 171 #[.int .i8 x] w fun e w' => e = .returned (.bool false) ∧ w' = w := by
  go_enter Tryz.func171, Tryz.ntmps171
  go_wp2
  go_ret
  exact ⟨rfl, rfl⟩
theorem compare_any (x y : Int) (w : World) : Calls Tryz.prog 133 #[.int .i8 x, .int .i8 y] w fun e w' => e = .returned (.int .i64 (cpI x y)) ∧ w' = w := by
  unfold cpI
  by_cases h1 : x < y
  · have h2 : decide (x < y) = true := decide_eq_true h1
    rw [if_pos h1]
    go_enter Tryz.func133, Tryz.ntmps133
    go_wp2_with (go_at_call 171; refine (isNaN_any _ _).mono ?_; rintro e w1 ⟨rfl, rfl⟩)
    go_ret
    exact ⟨rfl, rfl⟩
  · rw [if_neg h1]
    by_cases h3 : y < x
    · rw [if_pos h3]
      go_enter Tryz.func133, Tryz.ntmps133
      go_wp2_with (go_at_call 171; refine (isNaN_any _ _).mono ?_; rintro e w1 ⟨rfl, rfl⟩)
      go_ret
      exact ⟨rfl, rfl⟩
    · rw [if_neg h3]
      go_enter Tryz.func133, Tryz.ntmps133
      go_wp2_with (go_at_call 171; refine (isNaN_any _ _).mono ?_; rintro e w1 ⟨rfl, rfl⟩)
      go_ret
      exact ⟨rfl, rfl⟩
theorem or_any (b : Nat) (c1 c2 : Int) (w : World) (hr : rowOf w b = #[.int .i64 c1, .int .i64 c2]) (hb : b < w.heap.size) : Calls Tryz.prog 132 #[.slice (some ⟨b, 0, none⟩) 2 2] w fun e w' => e = .returned (.int .i64 (if c1 ≠ 0 then c1 else c2)) ∧ w' = w := by
  go_enter Tryz.func132, Tryz.ntmps132
  go_wp2
  go_loopw [8] (fun i wr => wr = w ∧ (i = .int .i64 (0 : Nat) ∨ (i = .int .i64 (1 : Nat) ∧ c1 = 0) ∨ (i = .int .i64 (2 : Nat) ∧ c1 = 0 ∧ c2 = 0))) (fun i wr => 3 - (intOf i).toNat)
  case atStart => exact ⟨rfl, .inl rfl⟩
  case round =>
    obtain ⟨rfl, rfl | ⟨rfl, h1⟩ | ⟨rfl, h1, h2⟩⟩ := hrel
    · by_cases h1 : c1 = 0
      · subst h1
        go_wp2
        go_roundw
        case rel => simp
        case measure => simp [intOf]
      · have h2 : (c1 == 0) = false := by rw [beq_eq_false_iff_ne]; exact h1
        go_wp2
        go_ret
        exact ⟨by first | rfl | rw [if_pos h1], rfl⟩
    · subst h1
      by_cases h1 : c2 = 0
      · subst h1
        go_wp2
        go_roundw
        case rel => simp
        case measure => simp [intOf]
      · have h2 : (c2 == 0) = false := by rw [beq_eq_false_iff_ne]; exact h1
        go_wp2
        go_ret
        exact ⟨rfl, rfl⟩
    · subst h1
      subst h2
      go_wp2
      go_ret
      exact ⟨rfl, rfl⟩
set_option maxHeartbeats 4000000 in
theorem inOrder_any (a b : Int × Int) (w : World) : Calls Tryz.prog 107 #[.agg #[.int .i8 a.1, .int .i8 a.2], .agg #[.int .i8 b.1, .int .i8 b.2]] w fun e w' => e = .returned (.int .i64 (cpS a b)) ∧ ∃ q os', w' = grow (w.drewN q) os' := by
  obtain ⟨x1, x2⟩ := a
  obtain ⟨y1, y2⟩ := b
  have HC1 := Lib.hid (fun w => compare_any x2 y2 w)
  have HC2 := Lib.hid (fun w => compare_any x1 y1 w)
  have HV0 : cpS (x1, x2) (y1, y2) = if cpI x2 y2 ≠ 0 then cpI x2 y2 else cpI x1 y1 := rfl
  generalize cpI x2 y2 = c1 at *
  generalize cpI x1 y1 = c2 at *
  have HO0 := fun b w h1 h2 => or_any b c1 c2 w h1 h2
  rw [← HV0] at HO0
  clear HV0
  generalize cpS (x1, x2) (y1, y2) = r at *
  have HO := Lib.hid HO0
  clear HO0
  go_enter Tryz.func107, Tryz.ntmps107
  go_wp2
  (refine wp_region_held (S := fun w' => rowOf w' (w.heap.size) = #[.int .i8 x1, .int .i8 x2] ∧ rowOf w' (w.heap.size + 1) = #[.int .i8 y1, .int .i8 y2]) (by kernel_rfl) ?_); (simp only [World.drew_eq]); (refine wpAnyH_take (i := 0) (v := .pointer (some ⟨w.heap.size, 1, none⟩)) rfl (by kernel_rfl) (by kernel_rfl) (by kernel_rfl) (fun _ _ _ h => h) (.inl ⟨by first | (simp [Region.wanted]; done) | rfl | simp [Region.wanted, yielded], fun w _ => by unfold execOp; go_simp⟩) ⟨by go_simp, by go_simp⟩ ?_); (try simp only [Act.put, Act.eval, List.getElem_toArray, List.getElem_cons_zero, List.getElem_cons_succ, List.setIfInBounds_toArray, List.set_cons_zero, List.set_cons_succ, Array.getD_eq_getD_getElem?, List.getElem?_toArray, List.getElem?_cons_zero, List.getElem?_cons_succ, Option.getD_some]); (refine wpAnyH_take (i := 1) rfl (by kernel_rfl) (by kernel_rfl) (by kernel_rfl) (fun _ _ _ h => h) (yieldsIf_load (v := .int .i8 x2) rfl rfl rfl (fun w ⟨h0, h1⟩ => by go_simp)) ⟨by go_simp, by go_simp⟩ ?_); (try simp only [Act.put, Act.eval, List.getElem_toArray, List.getElem_cons_zero, List.getElem_cons_succ, List.setIfInBounds_toArray, List.set_cons_zero, List.set_cons_succ, Array.getD_eq_getD_getElem?, List.getElem?_toArray, List.getElem?_cons_zero, List.getElem?_cons_succ, Option.getD_some]); (refine wpAnyH_take (i := 2) (v := .pointer (some ⟨w.heap.size + 1, 1, none⟩)) rfl (by kernel_rfl) (by kernel_rfl) (by kernel_rfl) (fun _ _ _ h => h) (.inl ⟨by first | (simp [Region.wanted]; done) | rfl | simp [Region.wanted, yielded], fun w _ => by unfold execOp; go_simp⟩) ⟨by go_simp, by go_simp⟩ ?_); (try simp only [Act.put, Act.eval, List.getElem_toArray, List.getElem_cons_zero, List.getElem_cons_succ, List.setIfInBounds_toArray, List.set_cons_zero, List.set_cons_succ, Array.getD_eq_getD_getElem?, List.getElem?_toArray, List.getElem?_cons_zero, List.getElem?_cons_succ, Option.getD_some]); (refine wpAnyH_take (i := 3) rfl (by kernel_rfl) (by kernel_rfl) (by kernel_rfl) (fun _ _ _ h => h) (yieldsIf_load (v := .int .i8 y2) rfl rfl rfl (fun w ⟨h0, h1⟩ => by go_simp)) ⟨by go_simp, by go_simp⟩ ?_); (try simp only [Act.put, Act.eval, List.getElem_toArray, List.getElem_cons_zero, List.getElem_cons_succ, List.setIfInBounds_toArray, List.set_cons_zero, List.set_cons_succ, Array.getD_eq_getD_getElem?, List.getElem?_toArray, List.getElem?_cons_zero, List.getElem?_cons_succ, Option.getD_some]); (refine wpAnyH_take (i := 5) (v := .pointer (some ⟨w.heap.size, 0, none⟩)) rfl (by kernel_rfl) (by kernel_rfl) (by kernel_rfl) (fun _ _ _ h => h) (.inl ⟨by first | (simp [Region.wanted]; done) | rfl | simp [Region.wanted, yielded], fun w _ => by unfold execOp; go_simp⟩) ⟨by go_simp, by go_simp⟩ ?_); (try simp only [Act.put, Act.eval, List.getElem_toArray, List.getElem_cons_zero, List.getElem_cons_succ, List.setIfInBounds_toArray, List.set_cons_zero, List.set_cons_succ, Array.getD_eq_getD_getElem?, List.getElem?_toArray, List.getElem?_cons_zero, List.getElem?_cons_succ, Option.getD_some]); (refine wpAnyH_take (i := 6) rfl (by kernel_rfl) (by kernel_rfl) (by kernel_rfl) (fun _ _ _ h => h) (yieldsIf_load (v := .int .i8 x1) rfl rfl rfl (fun w ⟨h0, h1⟩ => by go_simp)) ⟨by go_simp, by go_simp⟩ ?_); (try simp only [Act.put, Act.eval, List.getElem_toArray, List.getElem_cons_zero, List.getElem_cons_succ, List.setIfInBounds_toArray, List.set_cons_zero, List.set_cons_succ, Array.getD_eq_getD_getElem?, List.getElem?_toArray, List.getElem?_cons_zero, List.getElem?_cons_succ, Option.getD_some]); (refine wpAnyH_take (i := 7) (v := .pointer (some ⟨w.heap.size + 1, 0, none⟩)) rfl (by kernel_rfl) (by kernel_rfl) (by kernel_rfl) (fun _ _ _ h => h) (.inl ⟨by first | (simp [Region.wanted]; done) | rfl | simp [Region.wanted, yielded], fun w _ => by unfold execOp; go_simp⟩) ⟨by go_simp, by go_simp⟩ ?_); (try simp only [Act.put, Act.eval, List.getElem_toArray, List.getElem_cons_zero, List.getElem_cons_succ, List.setIfInBounds_toArray, List.set_cons_zero, List.set_cons_succ, Array.getD_eq_getD_getElem?, List.getElem?_toArray, List.getElem?_cons_zero, List.getElem?_cons_succ, Option.getD_some]); (refine wpAnyH_take (i := 8) rfl (by kernel_rfl) (by kernel_rfl) (by kernel_rfl) (fun _ _ _ h => h) (yieldsIf_load (v := .int .i8 y1) rfl rfl rfl (fun w ⟨h0, h1⟩ => by go_simp)) ⟨by go_simp, by go_simp⟩ ?_); (try simp only [Act.put, Act.eval, List.getElem_toArray, List.getElem_cons_zero, List.getElem_cons_succ, List.setIfInBounds_toArray, List.set_cons_zero, List.set_cons_succ, Array.getD_eq_getD_getElem?, List.getElem?_toArray, List.getElem?_cons_zero, List.getElem?_cons_succ, Option.getD_some]); (refine wpAnyH_one (i := 4) (by kernel_rfl) rfl rfl ?_); (go_simp); (first | (go_at_call 133; with_reducible refine (HC1.out _).mono ?_; rintro e w1 ⟨rfl, rfl⟩) | (go_at_call 133; with_reducible refine (HC2.out _).mono ?_; rintro e w1 ⟨rfl, rfl⟩)); (refine ⟨⟨by go_simp, by go_simp⟩, ?_⟩); (try simp only [Act.put, Act.eval, List.getElem_toArray, List.getElem_cons_zero, List.getElem_cons_succ, List.setIfInBounds_toArray, List.set_cons_zero, List.set_cons_succ, Array.getD_eq_getD_getElem?, List.getElem?_toArray, List.getElem?_cons_zero, List.getElem?_cons_succ, Option.getD_some]); (refine wpAnyH_one (i := 9) (by kernel_rfl) rfl rfl ?_); (go_simp); (first | (go_at_call 133; with_reducible refine (HC1.out _).mono ?_; rintro e w1 ⟨rfl, rfl⟩) | (go_at_call 133; with_reducible refine (HC2.out _).mono ?_; rintro e w1 ⟨rfl, rfl⟩)); (refine ⟨⟨by go_simp, by go_simp⟩, ?_⟩); (try simp only [Act.put, Act.eval, List.getElem_toArray, List.getElem_cons_zero, List.getElem_cons_succ, List.setIfInBounds_toArray, List.set_cons_zero, List.set_cons_succ, Array.getD_eq_getD_getElem?, List.getElem?_toArray, List.getElem?_cons_zero, List.getElem?_cons_succ, Option.getD_some])
  refine wpAnyH_one (i := 10) (by kernel_rfl) rfl rfl ?_
  refine oper_hid (fun RR hRR => ?_)
  go_simp
  refine hRR _ _ ⟨⟨by go_simp, by go_simp⟩, ?_⟩
  clear hRR RR
  try simp only [Act.put, Act.eval, List.getElem_toArray, List.getElem_cons_zero, List.getElem_cons_succ, List.setIfInBounds_toArray, List.set_cons_zero, List.set_cons_succ, Array.getD_eq_getD_getElem?, List.getElem?_toArray, List.getElem?_cons_zero, List.getElem?_cons_succ, Option.getD_some]
  refine wpAnyH_one (i := 11) (by kernel_rfl) rfl rfl ?_
  refine oper_hid (fun RR hRR => ?_)
  go_simp
  go_at_call 132
  refine (HO.out _ _ (by go_simp) (by simp)).mono ?_
  rintro e w2 ⟨rfl, rfl⟩
  refine hRR _ _ ⟨⟨by go_simp, by go_simp⟩, ?_⟩
  clear hRR RR
  try simp only [Act.put, Act.eval, List.getElem_toArray, List.getElem_cons_zero, List.getElem_cons_succ, List.setIfInBounds_toArray, List.set_cons_zero, List.set_cons_succ, Array.getD_eq_getD_getElem?, List.getElem?_toArray, List.getElem?_cons_zero, List.getElem?_cons_succ, Option.getD_some]
  refine wpAnyH_take (i := 12) rfl (by kernel_rfl) (by kernel_rfl) (by kernel_rfl) (fun _ _ _ h => h) (yieldsIf_assign rfl rfl) ⟨by go_simp, by go_simp⟩ ?_
  try simp only [Act.put, Act.eval, List.getElem_toArray, List.getElem_cons_zero, List.getElem_cons_succ, List.setIfInBounds_toArray, List.set_cons_zero, List.set_cons_succ, Array.getD_eq_getD_getElem?, List.getElem?_toArray, List.getElem?_cons_zero, List.getElem?_cons_succ, Option.getD_some]
  refine wpAnyH_done (by kernel_rfl) ?_ _
  go_wp2
  go_ret
  refine ⟨rfl, 1, #[.cells #[.int .i8 x1, .int .i8 x2] 59, .cells #[.int .i8 y1, .int .i8 y2] 59, .cells #[.int .i64 c1, .int .i64 c2] 3], ?_⟩
  rw [alloc_eq_grow, alloc_eq_grow, alloc_eq_grow, grow_grow, grow_grow]
  rfl
end Go.Proofs.YtejnejplofddnaaGreatDoor
/- The library's sort at places: what it leaves. -/
namespace Go.Proofs.YtejnejplofddnaaGreatDoor
open Go.RowKit Go.Shelf Go.Lib Go.Sort
set_option linter.unusedVariables false
set_option linter.unusedSimpArgs false
set_option maxRecDepth 100000
def prs (f : Nat → Int) (n : Nat) : Array (Int × Int) := (Array.range n).map fun j => (f (j * 2), f (j * 2 + 1))
def unp (d : Array (Int × Int)) (j : Nat) : Int := if j % 2 = 0 then d[j / 2]!.1 else d[j / 2]!.2
theorem prs_size (f : Nat → Int) (n : Nat) : (prs f n).size = n := by simp [prs]
theorem prs_at (f : Nat → Int) {n j : Nat} (hj : j < n) : (prs f n)[j]! = (f (j * 2), f (j * 2 + 1)) := by simp [prs, hj]
theorem flat_at (d : Array (Int × Int)) {t : Nat} (h : t < d.size * 2) : (flatK encS 2 d)[t]! = .int .i8 (unp d t) := by
  rw [get_flatK _ _ _ _ h]
  unfold encS unp
  rcases Nat.mod_two_eq_zero_or_one t with h0 | h1
  · rw [h0]; rfl
  · rw [h1]; rfl
theorem unp_prs (f : Nat → Int) {n t : Nat} (h : t < n * 2) : unp (prs f n) t = f t := by
  unfold unp
  rw [prs_at f (show t / 2 < n by omega)]
  split
  · show f (t / 2 * 2) = f t
    congr 1; omega
  · show f (t / 2 * 2 + 1) = f t
    congr 1; omega
theorem sortW_below (w : World) (g m : Nat) (d : Array (Int × Int)) (os : Array Obj) (hg : g < w.heap.size) : Below g w (sortWorldK encS 2 w g 0 m d os) ∧ frOf (sortWorldK encS 2 w g 0 m d os) g = frOf w g ∧ w.heap.size ≤ (sortWorldK encS 2 w g 0 m d os).heap.size := by
  have hs : w.heap.size ≤ (sortWorldK encS 2 w g 0 m d os).heap.size := size_sortWorldK_c encS 2 w g 0 m d os
  have hk : ∀ k, k < w.heap.size → (sortWorldK encS 2 w g 0 m d os).heap[k]? = (w.heap.modify g (onCells (putCells id 0 (flatK encS 2 d))))[k]? := fun k hk => by
    show ((w.heap.modify g (onCells (putCells id 0 (flatK encS 2 d)))) ++ os)[k]? = _
    rw [Array.getElem?_append_left (by simpa using hk)]
  refine ⟨⟨rfl, rfl, rfl, hs, fun k hk2 => ?_⟩, ?_, hs⟩
  · rw [hk k (by omega), Array.getElem?_modify, if_neg (by omega)]
  · unfold frOf
    rw [hk g hg, Array.getElem?_modify, if_pos rfl]
    cases w.heap[g]? with
    | none => rfl
    | some o => cases o <;> rfl
set_option maxHeartbeats 2000000 in
theorem sort_spots (g n cap : Nat) (f : Nat → Int) (hn : n ≤ 1048576) (w : World) (hr : ∀ j, j < n * 2 → (rowOf w g)[j]? = some (.int .i8 (f j))) (hfr : frOf w g = (0, 0)) (hg : g < w.heap.size) :
    Calls Tryz.prog 106 #[.slice (some ⟨g, 0, none⟩) n cap, .func (.func 107) #[] #[]] w fun e w' => e = .returned (.tuple #[]) ∧ ∃ d' : Array (Int × Int), PermIn 0 n (prs f n) d' ∧ SortedIn (ltOf cpS) 0 n d' ∧ (∀ j, j < n * 2 → (rowOf w' g)[j]? = some (.int .i8 (unp d' j))) ∧ frOf w' g = (0, 0) ∧ w.heap.size ≤ w'.heap.size ∧ Below g w w' := by
  have eg : ∀ args w, (callFunc 107 args).run Tryz.prog w = .ok (.enter 107 args) w := enters_of Tryz.func107 (by kernel_rfl) rfl
  have hcl : ∀ (W : World) (d : Array (Int × Int)), d.size = n → (∀ j, j < n * 2 → (rowOf W g)[j]? = some (.int .i8 (unp d j))) → frOf W g = (0, 0) → HoldsK encS 2 W g 0 d := fun W d hd h1 h2 j hj => by
    rw [size_flatK, hd] at hj
    rw [Nat.zero_add, cell_row, h1 j hj, flat_at d (by rw [hd]; exact hj)]
    exact ⟨rfl, by rw [frozen_row, h2]; simp⟩
  have hH := hcl w (prs f n) (prs_size f n) (fun j hj => by rw [unp_prs f hj]; exact hr j hj) hfr
  have hcmp : CmpLays Tryz.prog 107 #[] encS 2 cpS g 0 (prs f n).size w := fun m os dk _ x y => inOrder_any x y (sortWorldK encS 2 w g 0 m dk os)
  have hcon := AnyQ.slices_SortFunc Tryz.sortSpot 2 Tryz.isAgg59 Tryz.sizeOf59 encS (fun _ => rfl) (fun x v hv => by simp [encS] at hv; rcases hv with rfl | rfl <;> rfl) cpS swoS 107 #[] g 0 cap (prs f n) w eg hcmp hH hg (by rw [prs_size]; omega)
  rw [prs_size] at hcon
  refine hcon.mono fun e w' ⟨he, d', m, os, hp, hs, hw⟩ => ?_
  have hd : d'.size = n := hp.1.trans (prs_size f n)
  obtain ⟨hb, hf2, hsz⟩ := sortW_below w g m d' os hg
  have hh := holdsK_sortWorldK_c encS 2 w g 0 (prs f n) d' m os hH hg (by rw [hd, prs_size])
  subst hw
  refine ⟨he, d', hp, hs, fun j hj => ?_, hf2.trans hfr, hsz, hb⟩
  have := (hh j (by rw [size_flatK, hd]; exact hj)).1
  rw [Nat.zero_add, cell_row] at this
  rw [this, flat_at d' (by rw [hd]; exact hj)]; rfl
end Go.Proofs.YtejnejplofddnaaGreatDoor
/- The cells of a sheet that something holds for: deleted from the list of all cells, in place. -/
namespace Go.Proofs.YtejnejplofddnaaGreatDoor
open Go.RowKit
set_option linter.unusedVariables false
set_option linter.unusedSimpArgs false
set_option maxRecDepth 100000
/-- A slice of rows is cleared. -/
theorem run_clear_wide {P : Program} (w : World) (t e ty : TypeId) (z : Value) (s : Nat) (ht : P.underlying t = some (.slice e)) (hv : ∀ w, (zeroValue e).run P w = .ok z w) (hz : z.cells.size = s) (h1 : ∀ (n : Nat), ∀ u ∈ (Builtin.zeroCells z.cells n).toList, u.oneCell' = true) (b o n c : Nat) (hn : 0 < n)
    (hfit : o + n * s ≤ (rowOf w b).size) (hfr : frOf w b = (0, 0)) :
    (Builtin.clear_ #[t] ty #[.slice (some ⟨b, o, none⟩) n c]).run P w = .ok (.tuple #[]) (w.setRow b (splice (rowOf w b) o (Builtin.zeroCells z.cells n))) := by
  have hl : (Builtin.zeroCells z.cells n).toList.length = n * s := by rw [Array.length_toList, size_zeroCells, hz]
  have hst := run_storeCells_cells (P := P) b o (Builtin.zeroCells z.cells n).toList 0 w (fun j hj => by
      rw [cell_row, Nat.add_zero]
      rw [hl] at hj
      rw [Array.getElem?_eq_getElem (by omega)]; rfl) (fun j hj => by rw [frozen_row, hfr]; simp) (h1 n)
  simp only [Nat.add_zero] at hst
  obtain ⟨m, rfl⟩ : ∃ m, n = m + 1 := ⟨n - 1, by omega⟩
  rw [setCells_eq_setRow b _ o w (by rw [hl]; omega), Array.toArray_toList] at hst
  simp [Builtin.clear_, run_underlying ht, hv, hst]
theorem spot_zero : ∃ z, (∀ w, (zeroValue 59).run Tryz.prog w = .ok z w) ∧ z.cells.size = 2 ∧ ∀ (n : Nat), ∀ u ∈ (Builtin.zeroCells z.cells n).toList, u.oneCell' = true := by
  have h : (match Tryz.prog.info? 59 with | some i => (match i.zero with | some z => z.cells.size == 2 && z.cells.all (·.oneCell') | none => false) | none => false) = true := by kernel_rfl
  split at h
  · rename_i i hi
    split at h
    · rename_i z hz
      simp only [Bool.and_eq_true, beq_iff_eq] at h
      refine ⟨z, fun w => by simp [zeroValue, typeInfo, hi, hz], h.1, fun n u hu => ?_⟩
      simp only [Builtin.zeroCells, Array.toList_map, List.mem_map] at hu
      obtain ⟨i, -, rfl⟩ := hu
      have hlt : i % z.cells.size < z.cells.size := Nat.mod_lt _ (by omega)
      rw [getElem!_pos z.cells _ hlt]
      exact (Array.all_eq_true.1 h.2) _ hlt
    · cases h
  · cases h
end Go.Proofs.YtejnejplofddnaaGreatDoor
/- Copies and appends of zeros, elements of several cells; one element put between others. No program. -/
namespace Go.Proofs.YtejnejplofddnaaGreatDoor
open Go.RowKit
set_option linter.unusedVariables false
set_option linter.unusedSimpArgs false
set_option maxRecDepth 100000
theorem owns_emptyW (w : World) (e : TypeId) (s : Nat) : (w.alloc (.cells #[] e)).ownsRow w.heap.size e s (.slice (some ⟨w.heap.size, 0, none⟩) 0 0) 0 [] :=
  ⟨by simp, .inr ⟨w.heap.size, 0, #[], rfl, Nat.le_refl _, by unfold World.alloc; exact Array.getElem?_push_size, Nat.le_refl _, by unfold maxLen; omega, by simp, by simp⟩⟩
end Go.Proofs.YtejnejplofddnaaGreatDoor
/- Slices of sheets: copied, sized and compared by the statements; compared by the program and the reference. -/
namespace Go.Proofs.YtejnejplofddnaaGreatDoor
open Go.RowKit
set_option linter.unusedVariables false
set_option linter.unusedSimpArgs false
set_option maxRecDepth 100000
end Go.Proofs.YtejnejplofddnaaGreatDoor
/- A stack cloned, and one sheet put in: the library's functions. -/
namespace Go.Proofs.YtejnejplofddnaaGreatDoor
open Go.RowKit
set_option linter.unusedVariables false
set_option linter.unusedSimpArgs false
set_option maxRecDepth 100000
theorem owns_cellsV {w : World} {base g cap n s : Nat} {e : TypeId} {xs : List Value} (h : w.ownsRow base e s (.slice (some ⟨g, 0, none⟩) n cap) n xs) : base ≤ g ∧ g < w.heap.size ∧ n ≤ cap ∧ cap ≤ maxLen ∧ (rowOf w g).size = cap * s ∧ frOf w g = (0, 0) ∧ w.heap[g]? = some (.cells (rowOf w g) e (0, 0)) ∧ ∀ j, j < n * s → (rowOf w g)[j]? = xs[j]? := by
  obtain ⟨hl, ⟨h0, -⟩ | ⟨g', cap', cur, hv, hb, hg, h1, h2, h3, ht⟩⟩ := h
  · cases h0
  · simp only [Value.slice.injEq, Option.some.injEq, Addr.mk.injEq] at hv
    obtain ⟨⟨rfl, -, -⟩, -, rfl⟩ := hv
    have hrow : rowOf w g = cur := by simp [rowOf, hg, objRow]
    refine ⟨hb, (Array.getElem?_eq_some_iff.1 hg).1, h1, h2, by rw [hrow]; exact h3, by simp [frOf, hg, objFr], by rw [hrow]; exact hg, fun j hj => ?_⟩
    rw [hrow, ← ht, List.getElem?_take, if_pos hj, Array.getElem?_toList]
end Go.Proofs.YtejnejplofddnaaGreatDoor
/- The places of a list, each once: the program's set; how long it is. -/
namespace Go.Proofs.YtejnejplofddnaaGreatDoor
open Go.RowKit
set_option linter.unusedVariables false
set_option linter.unusedSimpArgs false
set_option maxRecDepth 100000
/-- Two neighbours are one place. -/
def AdjE (f : Nat → Int) (k : Nat) : Prop := f (k * 2) = f (k * 2 + 2) ∧ f (k * 2 + 1) = f (k * 2 + 3)
def NoAdj (f : Nat → Int) (n : Nat) : Prop := ∀ k, k + 1 < n → ¬ AdjE f k
def Dis (f : Nat → Int) (n : Nat) : Prop := ∀ i j, i < j → j < n → ¬ (f (i * 2) = f (j * 2) ∧ f (i * 2 + 1) = f (j * 2 + 1))
theorem ltS_anti {a b : Int × Int} (h1 : ltOf cpS a b = false) (h2 : ltOf cpS b a = false) : a = b := by
  rw [ltS] at h1 h2
  have h1 := of_decide_eq_false h1
  have h2 := of_decide_eq_false h2
  obtain ⟨a1, a2⟩ := a
  obtain ⟨b1, b2⟩ := b
  simp only at h1 h2
  have e2 : a2 = b2 := by omega
  subst e2
  have e1 : a1 = b1 := by omega
  rw [e1]
theorem unp_even (d : Array (Int × Int)) (i : Nat) : unp d (i * 2) = d[i]!.1 ∧ unp d (i * 2 + 1) = d[i]!.2 := by
  unfold unp
  constructor
  · rw [if_pos (by omega), show i * 2 / 2 = i by omega]
  · rw [if_neg (by omega), show (i * 2 + 1) / 2 = i by omega]
theorem nodup_at {d : Array (Int × Int)} : d.toList.Nodup ↔ ∀ i j, i < j → j < d.size → d[i]! ≠ d[j]! := by
  unfold List.Nodup
  rw [List.pairwise_iff_getElem]
  constructor
  · intro h i j hij hj
    have := h i j (by simpa using (show i < d.size by omega)) (by simpa using hj) hij
    rw [getElem!_pos d i (by omega), getElem!_pos d j hj]
    simpa using this
  · intro h i j hi hj hij
    have := h i j hij (by simpa using hj)
    rw [getElem!_pos d i (by simpa using hi), getElem!_pos d j (by simpa using hj)] at this
    simpa using this
theorem sorted_dis {f : Nat → Int} {n : Nat} {d : Array (Int × Int)} (hp : Sort.PermIn 0 n (prs f n) d) (hs : Sort.SortedIn (ltOf cpS) 0 n d) : NoAdj (unp d) n ↔ Dis f n := by
  have hd : d.size = n := hp.1.trans (prs_size f n)
  have hpm := hp.2.2
  have e1 : d.extract 0 n = d := by rw [← hd]; simp
  have e2 : (prs f n).extract 0 n = prs f n := by
    have := prs_size f n
    calc (prs f n).extract 0 n = (prs f n).extract 0 (prs f n).size := by rw [this]
      _ = prs f n := by simp
  rw [e1, e2] at hpm
  have hN : d.toList.Nodup ↔ (prs f n).toList.Nodup := hpm.nodup_iff
  rw [nodup_at, nodup_at, hd, prs_size] at hN
  have h3 : (∀ i j, i < j → j < n → (prs f n)[i]! ≠ (prs f n)[j]!) ↔ Dis f n := by
    constructor
    · intro h i j hij hj g
      refine h i j hij hj ?_
      rw [prs_at f (by omega), prs_at f hj, g.1, g.2]
    · intro h i j hij hj g
      rw [prs_at f (by omega), prs_at f hj] at g
      simp only [Prod.mk.injEq] at g
      exact h i j hij hj g
  rw [← h3, ← hN]
  constructor
  · intro h i j hij hj e
    refine h i (by omega) ?_
    have q : d[i]! = d[i + 1]! := by
      refine ltS_anti ?_ (hs i (i + 1) (by omega) (by omega) (by omega))
      rcases Nat.eq_or_lt_of_le (show i + 1 ≤ j by omega) with h1 | h1
      · rw [h1, ← e]; exact swoS.irrefl _
      · rw [e]; exact hs (i + 1) j (by omega) h1 hj
    unfold AdjE
    rw [show i * 2 + 2 = (i + 1) * 2 by omega, show i * 2 + 3 = (i + 1) * 2 + 1 by omega, (unp_even d i).1, (unp_even d i).2, (unp_even d (i + 1)).1, (unp_even d (i + 1)).2, q]
    exact ⟨rfl, rfl⟩
  · intro h k hk g
    refine h k (k + 1) (by omega) hk ?_
    unfold AdjE at g
    rw [show k * 2 + 2 = (k + 1) * 2 by omega, show k * 2 + 3 = (k + 1) * 2 + 1 by omega, (unp_even d k).1, (unp_even d k).2, (unp_even d (k + 1)).1, (unp_even d (k + 1)).2] at g
    exact Prod.ext g.1 g.2
set_option maxHeartbeats 8000000 in
theorem compact_spots (g n cap : Nat) (f : Nat → Int) (hn : n ≤ 1048576) (hcap : n ≤ cap) (hcap2 : cap ≤ 9223372036854775807) (w : World) (hr : ∀ j, j < n * 2 → (rowOf w g)[j]? = some (.int .i8 (f j))) (hfr : frOf w g = (0, 0)) (hg : g < w.heap.size) :
    Calls Tryz.prog 108 #[.slice (some ⟨g, 0, none⟩) n cap] w fun e w' => ∃ m, e = .returned (.slice (some ⟨g, 0, none⟩) m cap) ∧ m ≤ n ∧ (m = n ↔ NoAdj f n) ∧ Below g w w' := by
  have HR := Lib.hid hr
  clear hr
  by_cases h2 : n < 2
  · have HM := Lib.hid (show n = n ↔ NoAdj f n from ⟨fun _ k hk => absurd hk (by omega), fun _ => rfl⟩)
    have h2i : (n : Int) < 2 := by omega
    clear h2
    go_enter Tryz.func108, Tryz.ntmps108
    go_wp2
    go_ret
    exact ⟨n, rfl, Nat.le_refl _, by simpa using HM.out, by repeat' (first | with_reducible exact Below.refl _ _ | with_reducible assumption | with_reducible refine Below.drew ?_ | with_reducible refine Below.drewN ?_ _ | with_reducible refine Below.alloc ?_ ?_ _ | with_reducible refine Below.setCell ?_ ?_ _ | with_reducible refine Below.setRow ?_ ?_ _ | with_reducible refine below_step (by assumption) ?_ ?_ | (show (_ : Nat) ≤ _; first | omega | (simp <;> omega)))⟩
  have h2i : ¬ (n : Int) < 2 := by omega
  go_enter Tryz.func108, Tryz.ntmps108
  go_wp2
  go_loopw [3] (fun i wr => ∃ k : Nat, 1 ≤ k ∧ k ≤ n ∧ i = .int .i64 k ∧ Below w.heap.size w wr ∧ NoAdj f k) (fun i wr => n - (intOf i).toNat)
  case atStart => exact ⟨1, by omega, by omega, rfl, by repeat' (first | with_reducible exact Below.refl _ _ | with_reducible assumption | with_reducible refine Below.drew ?_ | with_reducible refine Below.drewN ?_ _ | with_reducible refine Below.alloc ?_ ?_ _ | with_reducible refine Below.setCell ?_ ?_ _ | with_reducible refine Below.setRow ?_ ?_ _ | with_reducible refine below_step (by assumption) ?_ ?_ | (show (_ : Nat) ≤ _; first | omega | (simp <;> omega))), fun k hk => absurd hk (by omega)⟩
  case round =>
    obtain ⟨k, hk1, hk, rfl, hb, hna⟩ := hrel
    have HNA := Lib.hid hna
    have hszw := hb.size
    have hrow := keep_row hb hg
    have hfrw := (keep_fr hb hg).trans hfr
    have hgw : g < wr.heap.size := Nat.lt_of_lt_of_le hg hszw
    clear hna
    by_cases hlt : k < n
    · obtain ⟨q, rfl⟩ : ∃ q, k = q + 1 := ⟨k - 1, by omega⟩
      have e1 := HR.out ((q + 1) * 2) (by omega)
      have e2 := HR.out ((q + 1) * 2 + 1) (by omega)
      have e3 := HR.out (q * 2) (by omega)
      have e4 := HR.out (q * 2 + 1) (by omega)
      rw [← hrow] at e1 e2 e3 e4
      have hkm : IntKind.i64.wrap (((q + 1 : Nat) : Int) - 1) = (q : Int) := by rw [IntWalk.i64_in _ (by omega)]; omega
      have hkm2 : IntKind.i64.wrap ((q : Int) + 1 - 1) = (q : Int) := by rw [IntWalk.i64_in _ (by omega)]; omega
      have hlt2 : ((q + 1 : Nat) : Int) < (n : Int) := by omega
      have hlt3 : (q : Int) < (n : Int) := by omega
      have hA : AdjE f q ↔ f (q * 2) = f ((q + 1) * 2) ∧ f (q * 2 + 1) = f ((q + 1) * 2 + 1) := by
        unfold AdjE
        rw [show (q + 1) * 2 = q * 2 + 2 by omega]
      have HNX := Lib.hid (fun (h : ¬ AdjE f q) => show NoAdj f (q + 1 + 1) from fun j hj => by
        rcases Nat.lt_or_ge j q with h1 | h1
        · exact HNA.out j (by omega)
        · obtain rfl : j = q := by omega
          exact h)
      have HNO := Lib.hid (fun (h : AdjE f q) (m : Nat) (hm : m < n) => show m = n ↔ NoAdj f n from ⟨fun e => by omega, fun g => absurd h (g q (by omega))⟩)
      rw [hA] at HNX HNO
      clear hA hrow
      generalize f ((q + 1) * 2) = a1 at *
      generalize f ((q + 1) * 2 + 1) = a2 at *
      generalize f (q * 2) = b1 at *
      generalize f (q * 2 + 1) = b2 at *
      by_cases ha : b1 = a1 ∧ b2 = a2
      · obtain ⟨rfl, rfl⟩ := ha
        have HNO2 := Lib.hid (HNO.out ⟨rfl, rfl⟩)
        obtain ⟨z, hz1, hz2, hz3⟩ := spot_zero
        have HZ := Lib.hid (And.intro hz1 (And.intro hz2 hz3))
        have hcq : ¬ cap = q + 1 := by omega
        have hcq2 : ((q + 1 : Nat) : Int) ≤ (n : Int) := by omega
        clear hz1 hz2 hz3 HNX HNO
        obtain ⟨L, hL⟩ : ∃ L, n - (q + 1) = L := ⟨_, rfl⟩
        have hR0 : n * 2 ≤ (rowOf w g).size := by
          have := (Array.getElem?_eq_some_iff.1 (HR.out (n * 2 - 1) (by omega))).1
          omega
        go_wp2
        go_quiet (fail)
        go_wp2
        go_loopw [5, 3] (fun i s wr => ∃ (k2 kk : Nat) (d : Array Value) (h : Nat → Int), 1 ≤ k2 ∧ k2 ≤ L ∧ q + 1 ≤ kk ∧ kk ≤ q + k2 ∧ i = .int .i64 k2 ∧ s = .int .i64 kk ∧ Below g w wr ∧ frOf wr g = (0, 0) ∧ rowOf wr g = d ∧ n * 2 ≤ d.size ∧ ∀ j, j < n * 2 → d[j]? = some (.int .i8 (h j))) (fun i s wr => L + 1 - (intOf i).toNat)
        case atStart => exact ⟨1, q + 1, rowOf w g, f, by omega, by omega, by omega, by omega, rfl, by first | rfl | simp, below_le (B := w.heap.size) (by repeat' (first | with_reducible exact Below.refl _ _ | with_reducible assumption | with_reducible refine Below.drew ?_ | with_reducible refine Below.drewN ?_ _ | with_reducible refine Below.alloc ?_ ?_ _ | with_reducible refine Below.setCell ?_ ?_ _ | with_reducible refine Below.setRow ?_ ?_ _ | with_reducible refine below_step (by assumption) ?_ ?_ | (show (_ : Nat) ≤ _; first | omega | (simp <;> omega)))) (by omega), by (go_simp <;> (intros; omega)), by have hrr := keep_row hb hg; (go_simp <;> (intros; omega)), hR0, HR.out⟩
        case round =>
          clear hb hszw hfrw hgw e1 e2 e3 e4
          obtain ⟨k2, kk, d, h, h21, h2L, hkq, hkk, rfl, rfl, hb, hfr2, hrd, hds, hd⟩ := hrel
          have HD := Lib.hid hd
          have hszw := hb.size
          have hgw : g < wr.heap.size := Nat.lt_of_lt_of_le hg hszw
          clear hd
          by_cases hlt : k2 < L
          · obtain ⟨p, rfl⟩ : ∃ p, k2 = p + 1 := ⟨k2 - 1, by omega⟩
            have e1 := HD.out ((q + 1) * 2 + (p + 1) * 2) (by omega)
            have e2 := HD.out ((q + 1) * 2 + (p + 1) * 2 + 1) (by omega)
            have e3 := HD.out ((q + 1) * 2 + p * 2) (by omega)
            have e4 := HD.out ((q + 1) * 2 + p * 2 + 1) (by omega)
            have hpm : IntKind.i64.wrap (((p + 1 : Nat) : Int) - 1) = (p : Int) := by rw [IntWalk.i64_in _ (by omega)]; omega
            have hpm2 : IntKind.i64.wrap ((p : Int) + 1 - 1) = (p : Int) := by rw [IntWalk.i64_in _ (by omega)]; omega
            have hltL : ((p + 1 : Nat) : Int) < (L : Int) := by omega
            have hltL2 : (p : Int) < (L : Int) := by omega
            have hkn : (kk : Int) < (n : Int) := by omega
            have hkn2 : kk < n := by omega
            have hds1 : kk * 2 + 2 ≤ d.size := by omega
            have HUP := Lib.hid (show ∀ j, j < n * 2 → ((d.setIfInBounds (kk * 2) (.int .i8 (h ((q + 1) * 2 + (p + 1) * 2)))).setIfInBounds (kk * 2 + 1) (.int .i8 (h ((q + 1) * 2 + (p + 1) * 2 + 1))))[j]? = some (.int .i8 (upI (upI h (kk * 2) (h ((q + 1) * 2 + (p + 1) * 2))) (kk * 2 + 1) (h ((q + 1) * 2 + (p + 1) * 2 + 1)) j)) from fun j hj => by
              by_cases j1 : j = kk * 2 + 1
              · subst j1
                rw [Array.getElem?_setIfInBounds_self_of_lt (by rw [Array.size_setIfInBounds]; omega)]
                unfold upI
                rw [if_pos rfl]
              · rw [Array.getElem?_setIfInBounds_ne (by omega)]
                by_cases j0 : j = kk * 2
                · subst j0
                  rw [Array.getElem?_setIfInBounds_self_of_lt (by omega)]
                  unfold upI
                  rw [if_neg (by omega), if_pos rfl]
                · rw [Array.getElem?_setIfInBounds_ne (by omega), HD.out j hj]
                  unfold upI
                  rw [if_neg j1, if_neg j0])
            obtain ⟨u0, hdk⟩ : ∃ u0, d[kk * 2]? = some u0 := ⟨_, Array.getElem?_eq_getElem (by omega)⟩
            obtain ⟨u1, hdk1⟩ : ∃ u1, d[kk * 2 + 1]? = some u1 := ⟨_, Array.getElem?_eq_getElem (by omega)⟩
            generalize h ((q + 1) * 2 + (p + 1) * 2) = a1 at *
            generalize h ((q + 1) * 2 + (p + 1) * 2 + 1) = a2 at *
            generalize h ((q + 1) * 2 + p * 2) = c1 at *
            generalize h ((q + 1) * 2 + p * 2 + 1) = c2 at *
            by_cases h1 : a1 = c1
            · by_cases h2 : a2 = c2
              · subst h1
                subst h2
                go_wp2
                go_quiet (fail)
                go_wp2
                go_roundw
                case rel => first | exact ⟨p + 1 + 1, kk, d, h, by omega, by omega, by omega, by omega, by go_num, rfl, by repeat' (first | with_reducible exact Below.refl _ _ | with_reducible assumption | with_reducible refine Below.drew ?_ | with_reducible refine Below.drewN ?_ _ | with_reducible refine Below.alloc ?_ ?_ _ | with_reducible refine Below.setCell ?_ ?_ _ | with_reducible refine Below.setRow ?_ ?_ _ | with_reducible refine below_step (by assumption) ?_ ?_ | (show (_ : Nat) ≤ _; first | omega | (simp <;> omega))), by (go_simp <;> (intros; omega)), by (go_simp <;> (intros; omega)), hds, HD.out⟩ | ((repeat (with_reducible apply Exists.intro)); refine And.intro ?_ ?_; rotate_left; (focus ((repeat' (with_reducible apply And.intro)) <;> rfl)); exact ⟨p + 1 + 1, kk, d, h, by omega, by omega, by omega, by omega, by go_num, rfl, by repeat' (first | with_reducible exact Below.refl _ _ | with_reducible assumption | with_reducible refine Below.drew ?_ | with_reducible refine Below.drewN ?_ _ | with_reducible refine Below.alloc ?_ ?_ _ | with_reducible refine Below.setCell ?_ ?_ _ | with_reducible refine Below.setRow ?_ ?_ _ | with_reducible refine below_step (by assumption) ?_ ?_ | (show (_ : Nat) ≤ _; first | omega | (simp <;> omega))), by (go_simp <;> (intros; omega)), by (go_simp <;> (intros; omega)), hds, HD.out⟩)
                case measure => simp [intOf] <;> omega
              · subst h1
                have h2b : (a2 == c2) = false := by simpa using h2
                go_wp2
                go_quiet (fail)
                go_wp2
                go_roundw
                case rel => first | exact ⟨p + 1 + 1, kk + 1, (d.setIfInBounds (kk * 2) (.int .i8 a1)).setIfInBounds (kk * 2 + 1) (.int .i8 a2), upI (upI h (kk * 2) a1) (kk * 2 + 1) a2, by omega, by omega, by omega, by omega, by go_num, by go_num, by repeat' (first | with_reducible exact Below.refl _ _ | with_reducible assumption | with_reducible refine Below.drew ?_ | with_reducible refine Below.drewN ?_ _ | with_reducible refine Below.alloc ?_ ?_ _ | with_reducible refine Below.setCell ?_ ?_ _ | with_reducible refine Below.setRow ?_ ?_ _ | with_reducible refine below_step (by assumption) ?_ ?_ | (show (_ : Nat) ≤ _; first | omega | (simp <;> omega))), by (go_simp <;> (intros; omega)), by (go_simp <;> (intros; omega)), by simpa using hds, HUP.out⟩ | ((repeat (with_reducible apply Exists.intro)); refine And.intro ?_ ?_; rotate_left; (focus ((repeat' (with_reducible apply And.intro)) <;> rfl)); exact ⟨p + 1 + 1, kk + 1, (d.setIfInBounds (kk * 2) (.int .i8 a1)).setIfInBounds (kk * 2 + 1) (.int .i8 a2), upI (upI h (kk * 2) a1) (kk * 2 + 1) a2, by omega, by omega, by omega, by omega, by go_num, by go_num, by repeat' (first | with_reducible exact Below.refl _ _ | with_reducible assumption | with_reducible refine Below.drew ?_ | with_reducible refine Below.drewN ?_ _ | with_reducible refine Below.alloc ?_ ?_ _ | with_reducible refine Below.setCell ?_ ?_ _ | with_reducible refine Below.setRow ?_ ?_ _ | with_reducible refine below_step (by assumption) ?_ ?_ | (show (_ : Nat) ≤ _; first | omega | (simp <;> omega))), by (go_simp <;> (intros; omega)), by (go_simp <;> (intros; omega)), by simpa using hds, HUP.out⟩)
                case measure => simp [intOf] <;> omega
            · have h1b : (a1 == c1) = false := by simpa using h1
              go_wp2
              go_quiet (fail)
              go_wp2
              go_roundw
              case rel => first | exact ⟨p + 1 + 1, kk + 1, (d.setIfInBounds (kk * 2) (.int .i8 a1)).setIfInBounds (kk * 2 + 1) (.int .i8 a2), upI (upI h (kk * 2) a1) (kk * 2 + 1) a2, by omega, by omega, by omega, by omega, by go_num, by go_num, by repeat' (first | with_reducible exact Below.refl _ _ | with_reducible assumption | with_reducible refine Below.drew ?_ | with_reducible refine Below.drewN ?_ _ | with_reducible refine Below.alloc ?_ ?_ _ | with_reducible refine Below.setCell ?_ ?_ _ | with_reducible refine Below.setRow ?_ ?_ _ | with_reducible refine below_step (by assumption) ?_ ?_ | (show (_ : Nat) ≤ _; first | omega | (simp <;> omega))), by (go_simp <;> (intros; omega)), by (go_simp <;> (intros; omega)), by simpa using hds, HUP.out⟩ | ((repeat (with_reducible apply Exists.intro)); refine And.intro ?_ ?_; rotate_left; (focus ((repeat' (with_reducible apply And.intro)) <;> rfl)); exact ⟨p + 1 + 1, kk + 1, (d.setIfInBounds (kk * 2) (.int .i8 a1)).setIfInBounds (kk * 2 + 1) (.int .i8 a2), upI (upI h (kk * 2) a1) (kk * 2 + 1) a2, by omega, by omega, by omega, by omega, by go_num, by go_num, by repeat' (first | with_reducible exact Below.refl _ _ | with_reducible assumption | with_reducible refine Below.drew ?_ | with_reducible refine Below.drewN ?_ _ | with_reducible refine Below.alloc ?_ ?_ _ | with_reducible refine Below.setCell ?_ ?_ _ | with_reducible refine Below.setRow ?_ ?_ _ | with_reducible refine below_step (by assumption) ?_ ?_ | (show (_ : Nat) ≤ _; first | omega | (simp <;> omega))), by (go_simp <;> (intros; omega)), by (go_simp <;> (intros; omega)), by simpa using hds, HUP.out⟩)
              case measure => simp [intOf] <;> omega
          · have hke : k2 = L := by omega
            subst hke
            have hkn : kk < n := by omega
            have hkn2 : (kk : Int) < (n : Int) := by omega
            have hkn3 : (kk : Int) ≤ (n : Int) := by omega
            have hkn4 : ¬ cap = kk := by omega
            have hkn5 : kk ≤ cap := by omega
            have hkn6 : (kk : Int) ≤ (cap : Int) := by omega
            have hcl2 : ∀ ty, (Builtin.clear_ #[49] ty #[.slice (some ⟨g, kk * 2, none⟩) (n - kk) (cap - kk)]).run Tryz.prog wr = .ok (.tuple #[]) (wr.setRow g (splice (rowOf wr g) (kk * 2) (Builtin.zeroCells z.cells (n - kk)))) :=
              fun ty => run_clear_wide wr _ _ ty z 2 Tryz.underlying49 HZ.out.1 HZ.out.2.1 HZ.out.2.2 g _ _ _ (by omega) (by rw [hrd]; omega) hfr2
            generalize splice (rowOf wr g) (kk * 2) (Builtin.zeroCells z.cells (n - kk)) = zc at hcl2
            have HM := Lib.hid (HNO2.out kk hkn)
            go_wp2
            go_ret
            exact ⟨kk, rfl, by omega, HM.out, by repeat' (first | with_reducible exact Below.refl _ _ | with_reducible assumption | with_reducible refine Below.drew ?_ | with_reducible refine Below.drewN ?_ _ | with_reducible refine Below.alloc ?_ ?_ _ | with_reducible refine Below.setCell ?_ ?_ _ | with_reducible refine Below.setRow ?_ ?_ _ | with_reducible refine below_step (by assumption) ?_ ?_ | (show (_ : Nat) ≤ _; first | omega | (simp <;> omega)))⟩
      · have HN := Lib.hid (HNX.out ha)
        by_cases h1 : a1 = b1
        · subst h1
          have h2 : ¬ a2 = b2 := fun e => ha ⟨rfl, e.symm⟩
          have h2b : (a2 == b2) = false := by simpa using h2
          clear ha
          go_wp2
          go_quiet (fail)
          go_wp2
          go_roundw
          case rel => first | exact ⟨q + 1 + 1, by omega, by omega, by go_num, by repeat' (first | with_reducible exact Below.refl _ _ | with_reducible assumption | with_reducible refine Below.drew ?_ | with_reducible refine Below.drewN ?_ _ | with_reducible refine Below.alloc ?_ ?_ _ | with_reducible refine Below.setCell ?_ ?_ _ | with_reducible refine Below.setRow ?_ ?_ _ | with_reducible refine below_step (by assumption) ?_ ?_ | (show (_ : Nat) ≤ _; first | omega | (simp <;> omega))), HN.out⟩ | ((repeat (with_reducible apply Exists.intro)); refine And.intro ?_ ?_; rotate_left; (focus ((repeat' (with_reducible apply And.intro)) <;> rfl)); exact ⟨q + 1 + 1, by omega, by omega, by go_num, by repeat' (first | with_reducible exact Below.refl _ _ | with_reducible assumption | with_reducible refine Below.drew ?_ | with_reducible refine Below.drewN ?_ _ | with_reducible refine Below.alloc ?_ ?_ _ | with_reducible refine Below.setCell ?_ ?_ _ | with_reducible refine Below.setRow ?_ ?_ _ | with_reducible refine below_step (by assumption) ?_ ?_ | (show (_ : Nat) ≤ _; first | omega | (simp <;> omega))), HN.out⟩)
          case measure => simp [intOf] <;> omega
        · have h2b : (a1 == b1) = false := by simpa using h1
          clear ha
          go_wp2
          go_quiet (fail)
          go_wp2
          go_roundw
          case rel => first | exact ⟨q + 1 + 1, by omega, by omega, by go_num, by repeat' (first | with_reducible exact Below.refl _ _ | with_reducible assumption | with_reducible refine Below.drew ?_ | with_reducible refine Below.drewN ?_ _ | with_reducible refine Below.alloc ?_ ?_ _ | with_reducible refine Below.setCell ?_ ?_ _ | with_reducible refine Below.setRow ?_ ?_ _ | with_reducible refine below_step (by assumption) ?_ ?_ | (show (_ : Nat) ≤ _; first | omega | (simp <;> omega))), HN.out⟩ | ((repeat (with_reducible apply Exists.intro)); refine And.intro ?_ ?_; rotate_left; (focus ((repeat' (with_reducible apply And.intro)) <;> rfl)); exact ⟨q + 1 + 1, by omega, by omega, by go_num, by repeat' (first | with_reducible exact Below.refl _ _ | with_reducible assumption | with_reducible refine Below.drew ?_ | with_reducible refine Below.drewN ?_ _ | with_reducible refine Below.alloc ?_ ?_ _ | with_reducible refine Below.setCell ?_ ?_ _ | with_reducible refine Below.setRow ?_ ?_ _ | with_reducible refine below_step (by assumption) ?_ ?_ | (show (_ : Nat) ≤ _; first | omega | (simp <;> omega))), HN.out⟩)
          case measure => simp [intOf] <;> omega
    · have hke : k = n := by omega
      subst hke
      have HM := Lib.hid (show k = k ↔ NoAdj f k from ⟨fun _ => HNA.out, fun _ => rfl⟩)
      clear hrow
      go_wp2
      go_ret
      exact ⟨k, rfl, Nat.le_refl _, by simpa using HM.out, below_le (by repeat' (first | with_reducible exact Below.refl _ _ | with_reducible assumption | with_reducible refine Below.drew ?_ | with_reducible refine Below.drewN ?_ _ | with_reducible refine Below.alloc ?_ ?_ _ | with_reducible refine Below.setCell ?_ ?_ _ | with_reducible refine Below.setRow ?_ ?_ _ | with_reducible refine below_step (by assumption) ?_ ?_ | (show (_ : Nat) ≤ _; first | omega | (simp <;> omega)))) (by omega)⟩
theorem owns_sliceS {w : World} {base : Nat} {e : TypeId} {s : Nat} {v : Value} {n : Nat} {xs : List Value} (h : w.ownsRow base e s v n xs) (hn : 0 < n) : ∃ g cap, v = .slice (some ⟨g, 0, none⟩) n cap := by
  rcases h.2 with ⟨-, h0⟩ | ⟨g, cap, cur, h1, -⟩
  · omega
  · exact ⟨g, cap, h1⟩
set_option maxHeartbeats 2000000 in
theorem clone_spotsO (v : Value) (n b : Nat) (f : Nat → Int) (hn : n ≤ 1048576) (w : World) (h : OwnK .i8 2 w b v n f) :
    Calls Tryz.prog 105 #[v] w fun e w' => ∃ v', e = .returned v' ∧ w'.ownsRow w.heap.size 59 2 v' n ((List.range (n * 2)).map fun j => .int .i8 (f j)) ∧ Below w.heap.size w w' := by
  obtain ⟨i0, z0, hi0, hz0, hs0, hb0, hc0⟩ := spot_info
  have heq := fun a m c w => Lib.run_eql_slice_nil (P := Tryz.prog) w 49 59 a m c 0 0 Tryz.underlying49
  rcases h with ⟨rfl, rfl⟩ | ⟨g, cap, rfl, hbg, hg, hfr, hsz, hcells⟩
  · go_enter Tryz.func105, Tryz.ntmps105
    go_wp2
    go_ret
    exact ⟨_, rfl, World.ownsRow_nil _ _ _ _, by repeat' (first | with_reducible exact Below.refl _ _ | with_reducible assumption | with_reducible refine Below.drew ?_ | with_reducible refine Below.drewN ?_ _ | with_reducible refine Below.alloc ?_ ?_ _ | with_reducible refine Below.setCell ?_ ?_ _ | with_reducible refine Below.setRow ?_ ?_ _ | with_reducible refine below_step (by assumption) ?_ ?_ | (show (_ : Nat) ≤ _; first | omega | (simp <;> omega)))⟩
  · have HC := Lib.hid hcells
    clear hcells
    go_enter Tryz.func105, Tryz.ntmps105
    go_wp2_with (at_builtin; refine wpList_append_own _ rfl _ _ 49 rfl w.heap.size 59 i0 z0 2 2 Tryz.underlying49 hi0 hz0 hs0 hb0 hc0 (by decide) _ _ _ rfl (owns_empty w _) ⟨g, 0, none⟩ n cap ((List.range (n * 2)).map fun j => .int .i8 (f j)) rfl (by simp) ?c1 ?c2 ?c3 ?c4 ?c5 ?_)
    case c1 =>
      intro j u hj
      have hjn : j < n * 2 := by
        have := (List.getElem?_eq_some_iff.1 hj).1
        simpa using this
      rw [List.getElem?_map, List.getElem?_range hjn] at hj
      simp only [Option.map_some, Option.some.injEq] at hj
      subst hj
      have e := HC.out j hjn
      have : ((⟨g, 0, none⟩ : Addr).add j) = ⟨g, j, none⟩ := by unfold Addr.add; split <;> simp_all
      rw [this, cell_row]
      go_simp
    case c2 => intro u hu; simp at hu; obtain ⟨j, -, rfl⟩ := hu; rfl
    case c3 => unfold maxLen; omega
    case c4 => omega
    case c5 => simp
    intro v' w1 hown' hgrow _
    have hbg : Below w.heap.size w w1 := below_grown (Below.alloc (Below.refl _ _) (Nat.le_refl _) _) hgrow (fun k hk => by simp [Value.ownBlock] at hk; omega) (by simp)
    have HB := Lib.hid hbg
    have HW := Lib.hid hown'
    clear hbg hown' hgrow
    go_wp2
    go_ret
    exact ⟨_, rfl, HW.out, HB.out⟩
set_option maxHeartbeats 4000000 in
theorem set_any (v : Value) (n b : Nat) (f : Nat → Int) (h0 : 1 ≤ n) (hn : n ≤ 1048576) (w : World) (h : OwnK .i8 2 w b v n f) :
    Calls Tryz.prog 62 #[v] w fun e w' => ∃ a m cap, e = .returned (.slice a m cap) ∧ m ≤ n ∧ (m = n ↔ Dis f n) ∧ Below w.heap.size w w' := by
  have HCL := Lib.hid (clone_spotsO v n b f hn w h)
  have HS := Lib.hid (fun g cap w h1 h2 h3 => sort_spots g n cap f hn w h1 h2 h3)
  have HCP := Lib.hid (fun g cap f' h1 h2 w h3 h4 h5 => compact_spots g n cap f' hn h1 h2 w h3 h4 h5)
  clear h
  go_enter Tryz.func62, Tryz.ntmps62
  go_wp2_with (go_at_call 105; refine HCL.out.mono ?_; rintro e w1 ⟨v1, rfl, hown, hb1⟩; obtain ⟨g, cap, rfl⟩ := owns_sliceS hown h0; obtain ⟨hg1, hg2, hg3, hg4, hg5, hg6, -, hg7⟩ := owns_cellsV hown; clear hown)
  have hcap2 : cap ≤ 9223372036854775807 := by unfold maxLen at hg4; omega
  have hrow : ∀ j, j < n * 2 → (rowOf w1 g)[j]? = some (.int .i8 (f j)) := fun j hj => by rw [hg7 j hj, List.getElem?_map, List.getElem?_range hj]; rfl
  have HS1 := Lib.hid (HS.out g cap w1 hrow hg6 hg2)
  clear hrow hg7 hg5
  go_wp2_with (go_at_call 106; refine HS1.out.mono ?_; rintro e w2 ⟨rfl, d', hp, hs, hrow2, hfr2, hsz2, hb2⟩; have HD := Lib.hid (sorted_dis hp hs); have HC2 := Lib.hid (HCP.out g cap (unp d') hg3 hcap2 w2 hrow2 hfr2 (by omega)); have HB2 := Lib.hid hb2; clear hp hs hrow2 hb2)
  go_wp2_with (go_at_call 108; refine HC2.out.mono ?_; rintro e w3 ⟨m, rfl, hm1, hm2, hb3⟩)
  have HM := Lib.hid (And.intro hm1 (hm2.trans HD.out))
  have HB := Lib.hid (show Below w.heap.size w w3 from hb1.trans ((below_le HB2.out hg1).trans (below_le hb3 hg1)))
  clear hm1 hm2
  go_ret
  exact ⟨_, _, _, rfl, HM.out.1, HM.out.2, HB.out⟩
end Go.Proofs.YtejnejplofddnaaGreatDoor
/- Marks without one of them: copies, the library's Delete. -/
namespace Go.Proofs.YtejnejplofddnaaGreatDoor
open Go.RowKit
set_option linter.unusedVariables false
set_option linter.unusedSimpArgs false
set_option maxRecDepth 100000
/-- The cells of marks, one behind the other. -/
def mkL (F : Nat → Mk) (n : Nat) : List Value := (List.range (n * 2)).map fun t => mkV F (t / 2) (t % 2)
theorem mkL_len (F : Nat → Mk) (n : Nat) : (mkL F n).length = n * 2 := by unfold mkL; simp
theorem mkL_at {F : Nat → Mk} {n t : Nat} (h : t < n * 2) : (mkL F n)[t]? = some (mkV F (t / 2) (t % 2)) := by unfold mkL; rw [List.getElem?_map, List.getElem?_range h]; rfl
theorem mkL_get {F : Nat → Mk} {n t : Nat} {u : Value} (h : (mkL F n)[t]? = some u) : t < n * 2 ∧ u = mkV F (t / 2) (t % 2) := by
  have ht : t < n * 2 := by
    have := (List.getElem?_eq_some_iff.1 h).1
    rwa [mkL_len] at this
  rw [mkL_at ht] at h
  exact ⟨ht, (Option.some.inj h).symm⟩
/-- All but the mark i. -/
def skF (F : Nat → Mk) (i k : Nat) : Mk := if k < i then F k else F (k + 1)
theorem sk_cat {F : Nat → Mk} {n i : Nat} (hi : i < n) : ∀ t, t < (n - 1) * 2 → (mkL F i ++ (mkL F n).drop ((i + 1) * 2))[t]? = some (mkV (skF F i) (t / 2) (t % 2)) := fun t ht => by
  rw [List.getElem?_append, mkL_len]
  by_cases h : t < i * 2
  · rw [if_pos h, mkL_at h]
    unfold mkV skF
    rw [if_pos (show t / 2 < i by omega)]
  · rw [if_neg h, List.getElem?_drop, mkL_at (by omega)]
    unfold mkV skF
    have h1 : ((i + 1) * 2 + (t - i * 2)) / 2 = t / 2 + 1 := by omega
    have h2 : ((i + 1) * 2 + (t - i * 2)) % 2 = t % 2 := by omega
    rw [h1, h2, if_neg (show ¬ t / 2 < i by omega)]
theorem mk_one {w : World} {b n : Nat} {v : Value} {F : Nat → Mk} (h : OwnM w b v n F) : ∀ u ∈ mkL F n, u.oneCell' = true := by
  intro u hu
  unfold mkL at hu
  obtain ⟨t, ht, rfl⟩ := List.mem_map.1 hu
  have ht := List.mem_range.1 ht
  unfold mkV
  split
  · rfl
  · obtain ⟨a, c, hv⟩ := (h.2 (t / 2) (by omega)).len
    rw [hv]; rfl
theorem mk_cells {w : World} {b n g cap : Nat} {F : Nat → Mk} (h : OwnM w b (.slice (some ⟨g, 0, none⟩) n cap) n F) (h0 : 0 < n) : g < w.heap.size ∧ n * 2 ≤ (rowOf w g).size ∧ frOf w g = (0, 0) ∧ ∀ t, t < n * 2 → (rowOf w g)[t]? = some (mkV F (t / 2) (t % 2)) := by
  obtain ⟨g', cap', hv, -, hg, hfr, hs, hc⟩ := h.1.pos h0
  simp only [Value.slice.injEq, Option.some.injEq, Addr.mk.injEq] at hv
  obtain ⟨⟨rfl, -, -⟩, -, rfl⟩ := hv
  refine ⟨hg, hs, hfr, fun t ht => ?_⟩
  have := hc (t / 2) (by omega) (t % 2) (Nat.mod_lt _ (by omega))
  rwa [show t / 2 * 2 + t % 2 = t by omega] at this
set_option maxHeartbeats 2000000 in
theorem clone_marks (v : Value) (n b : Nat) (F : Nat → Mk) (h0 : 0 < n) (hn : n ≤ 1048576) (w : World) (h : OwnM w b v n F) :
    Calls Tryz.prog 51 #[v] w fun e w' => ∃ v', e = .returned v' ∧ w'.ownsRow w.heap.size 51 2 v' n (mkL F n) ∧ Below w.heap.size w w' := by
  obtain ⟨i0, z0, hi0, hz0, hs0, hb0, hc0⟩ := mark_info
  have heq := fun a m c w => Lib.run_eql_slice_nil (P := Tryz.prog) w 35 51 a m c 0 0 Tryz.underlying35
  have hone := Lib.hid (mk_one h)
  have hm := h
  obtain ⟨g, cap, rfl, -⟩ := h.1.pos h0
  obtain ⟨hg, hs, hfr, hc⟩ := mk_cells hm h0
  have HC := Lib.hid hc
  clear h hm hc
  go_enter Tryz.func51, Tryz.ntmps51
  go_wp2_with (at_builtin; refine wpList_append_own _ rfl _ _ 35 rfl w.heap.size 51 i0 z0 2 32 Tryz.underlying35 hi0 hz0 hs0 hb0 hc0 (by decide) _ _ _ rfl (owns_emptyW w _ 2) ⟨g, 0, none⟩ n cap (mkL F n) rfl (mkL_len F n) ?c1 hone.out ?c3 ?c4 ?c5 ?_)
  case c1 =>
    intro j u hj
    obtain ⟨hjn, rfl⟩ := mkL_get hj
    have e := HC.out j hjn
    have : ((⟨g, 0, none⟩ : Addr).add j) = ⟨g, j, none⟩ := by unfold Addr.add; split <;> simp_all
    rw [this, cell_row]
    go_simp
  case c3 => unfold maxLen; omega
  case c4 => omega
  case c5 => simp
  intro v' w1 hown' hgrow _
  have hbg : Below w.heap.size w w1 := below_grown (Below.alloc (Below.refl _ _) (Nat.le_refl _) _) hgrow (fun k hk => by simp [Value.ownBlock] at hk; omega) (by simp)
  have HB := Lib.hid hbg
  have HW := Lib.hid hown'
  clear hbg hown' hgrow
  go_wp2
  go_ret
  exact ⟨_, rfl, HW.out, HB.out⟩
theorem run_sliceBound_ok {P : Program} {w : World} (k : IntKind) (i : Int) (y : Nat) (code : BoundsCode) (h : 0 ≤ i ∧ i ≤ (y : Int)) : (Instr.sliceBound (.int k i) y code).run P w = .ok i.toNat w := by
  simp [Instr.sliceBound, asIntOf, h, go_sem]
theorem run_slice_at {P : Program} {W : World} (t e : TypeId) (i0 : TypeInfo) (ht : P.underlying t = some (.slice e)) (hi : P.info? e = some i0) (a : Option Addr) (len cap : Nat) (low high max : Option Value) (l h m : Nat) (hb : (Instr.sliceBounds true len cap low high max).run P W = .ok (l, h, m) W) : (Instr.slice t (.slice a len cap) low high max).run P W = .ok (.slice (if m = l then a else a.map (·.add (l * i0.size))) (h - l) (m - l)) W := by
  simp only [Instr.slice, Sem.run_bind, run_underlying ht, Result.andThen_ok, hb, sizeOf, typeInfo, Sem.run_pure]
  simp [hi, go_sem]
theorem bounds_high {P : Program} {W : World} (len cap : Nat) (x : Int) (h : 0 ≤ x ∧ x ≤ (cap : Int)) : (Instr.sliceBounds true len cap none (some (.int .i64 x)) none).run P W = .ok (0, x.toNat, cap) W := by
  simp only [Instr.sliceBounds, Sem.run_bind, run_sliceBound_ok _ _ _ _ h, Result.andThen_ok, Sem.run_pure]
theorem bounds_low {P : Program} {W : World} (len cap : Nat) (x : Int) (h : 0 ≤ x ∧ x ≤ (len : Int)) : (Instr.sliceBounds true len cap (some (.int .i64 x)) none none).run P W = .ok (x.toNat, len, cap) W := by
  simp only [Instr.sliceBounds, Sem.run_bind, run_sliceBound_ok _ _ _ _ h, Result.andThen_ok, Sem.run_pure]
theorem bounds_two {P : Program} {W : World} (len cap : Nat) (x y : Int) (h : 0 ≤ y ∧ y ≤ (cap : Int)) (h2 : 0 ≤ x ∧ x ≤ y) : (Instr.sliceBounds true len cap (some (.int .i64 x)) (some (.int .i64 y)) none).run P W = .ok (x.toNat, y.toNat, cap) W := by
  have h3 : 0 ≤ x ∧ x ≤ ((y.toNat : Nat) : Int) := by omega
  simp only [Instr.sliceBounds, Sem.run_bind, run_sliceBound_ok _ _ _ _ h, run_sliceBound_ok _ _ _ _ h3, Result.andThen_ok, Sem.run_pure]
theorem bounds_three {P : Program} {W : World} (len cap : Nat) (x y z : Int) (h : 0 ≤ z ∧ z ≤ (cap : Int)) (h2 : 0 ≤ y ∧ y ≤ z) (h3 : 0 ≤ x ∧ x ≤ y) : (Instr.sliceBounds true len cap (some (.int .i64 x)) (some (.int .i64 y)) (some (.int .i64 z))).run P W = .ok (x.toNat, y.toNat, z.toNat) W := by
  have h4 : 0 ≤ y ∧ y ≤ ((z.toNat : Nat) : Int) := by omega
  have h5 : 0 ≤ x ∧ x ≤ ((y.toNat : Nat) : Int) := by omega
  simp only [Instr.sliceBounds, Sem.run_bind, run_sliceBound_ok _ _ _ _ h, run_sliceBound_ok _ _ _ _ h4, run_sliceBound_ok _ _ _ _ h5, Result.andThen_ok, Sem.run_pure]
theorem addr_add0 (g k : Nat) : (⟨g, 0, none⟩ : Addr).add k = ⟨g, k, none⟩ := by unfold Addr.add; split <;> simp_all
theorem mark_zero : ∃ z, (∀ w, (zeroValue 51).run Tryz.prog w = .ok z w) ∧ z.cells.size = 2 ∧ ∀ (n : Nat), ∀ u ∈ (Builtin.zeroCells z.cells n).toList, u.oneCell' = true := by
  have h : (match Tryz.prog.info? 51 with | some i => (match i.zero with | some z => z.cells.size == 2 && z.cells.all (·.oneCell') | none => false) | none => false) = true := by kernel_rfl
  split at h
  · rename_i i hi
    split at h
    · rename_i z hz
      simp only [Bool.and_eq_true, beq_iff_eq] at h
      refine ⟨z, fun w => by simp [zeroValue, typeInfo, hi, hz], h.1, fun n u hu => ?_⟩
      simp only [Builtin.zeroCells, Array.toList_map, List.mem_map] at hu
      obtain ⟨i, -, rfl⟩ := hu
      have hlt : i % z.cells.size < z.cells.size := Nat.mod_lt _ (by omega)
      rw [getElem!_pos z.cells _ hlt]
      exact (Array.all_eq_true.1 h.2) _ hlt
    · cases h
  · cases h
set_option maxHeartbeats 4000000 in
theorem delete_marks (g n i cap base : Nat) (F : Nat → Mk) (hi : i < n) (hn : n ≤ 64) (w : World) (hown : w.ownsRow base 51 2 (.slice (some ⟨g, 0, none⟩) n cap) n (mkL F n)) (hone : ∀ u ∈ mkL F n, u.oneCell' = true) :
    Calls Tryz.prog 50 #[.slice (some ⟨g, 0, none⟩) n cap, .int .i64 (i : Int), .int .i64 ((i : Int) + 1)] w fun e w' => e = .returned (.slice (some ⟨g, 0, none⟩) (n - 1) cap) ∧ OwnV 2 w' base (.slice (some ⟨g, 0, none⟩) (n - 1) cap) (n - 1) (mkV (skF F i)) ∧ Below base w w' := by
  obtain ⟨i0, z0, hi0, hz0, hs0, hb0, hc0⟩ := mark_info
  obtain ⟨z, hz1, hz2, hz3⟩ := mark_zero
  obtain ⟨hbg, hg, hncap, hcm, hrs, hfr, hgh, hcs⟩ := owns_cellsV hown
  have hcm2 : cap ≤ 9223372036854775807 := by unfold maxLen at hcm; omega
  obtain ⟨N, rfl⟩ : ∃ N, n = N + 1 := ⟨n - 1, by omega⟩
  obtain ⟨R, hR⟩ : ∃ R, rowOf w g = R := ⟨_, rfl⟩
  rw [hR] at hrs hgh hcs
  have hw1 : IntKind.i64.wrap ((i : Int) + 1) = (i : Int) + 1 := IntWalk.i64_in _ (by omega)
  have hnews : ((mkL F (N + 1)).drop ((i + 1) * 2)).length = (N - i) * 2 := by rw [List.length_drop, mkL_len]; omega
  obtain ⟨C, hC⟩ : ∃ C : Array Value, C = (R.toList.take (i * 2) ++ (mkL F (N + 1)).drop ((i + 1) * 2) ++ R.toList.drop (i * 2 + ((mkL F (N + 1)).drop ((i + 1) * 2)).length)).toArray := ⟨_, rfl⟩
  have hRl : R.toList.length = cap * 2 := by rw [Array.length_toList]; exact hrs
  have hCs : C.size = cap * 2 := by
    rw [hC, List.size_toArray, List.length_append, List.length_append, hnews, List.length_take, List.length_drop, hRl]; omega
  have hRt : R.toList.take (i * 2) = mkL F i := by
    refine List.ext_getElem? (fun t => ?_)
    rw [List.getElem?_take]
    by_cases h : t < i * 2
    · rw [if_pos h, Array.getElem?_toList, hcs t (by omega), mkL_at (by omega), mkL_at h]
    · rw [if_neg h, List.getElem?_eq_none (by rw [mkL_len]; omega)]
  have hCt : ∀ t, t < N * 2 → C[t]? = some (mkV (skF F i) (t / 2) (t % 2)) := fun t ht => by
    have h1 := sk_cat (F := F) (n := N + 1) hi t (by omega)
    rw [hC, List.getElem?_toArray, hRt, List.getElem?_append_left (by rw [List.length_append, mkL_len, hnews]; omega)]
    exact h1
  have HAP : ∀ (W : World) (ad : Addr) (c : Nat), W.heap[g]? = some (.cells R 51 (0, 0)) → (ad = ⟨g, (i + 1) * 2, none⟩ ∨ N - i = 0) → ∀ ty, ∃ W1, (Builtin.append_ #[35, 35] ty #[.slice (some ⟨g, 0, none⟩) i cap, .slice (some ad) (N - i) c]).run Tryz.prog W = .ok (.slice (some ⟨g, 0, none⟩) N cap) W1 ∧ rowOf W1 g = C ∧ frOf W1 g = (0, 0) ∧ W1.heap.size = W.heap.size ∧ Below base W W1 := fun W ad c hW had ty => by
    have hr := run_append_room (P := Tryz.prog) W 35 ty 51 i0 Tryz.underlying35 hi0 g i cap R hW ad (N - i) c ((mkL F (N + 1)).drop ((i + 1) * 2)) (by rw [hs0]; exact hnews) (fun j u hj => by
        rcases had with rfl | h0
        · rw [List.getElem?_drop] at hj
          obtain ⟨hjl, rfl⟩ := mkL_get hj
          have : ((⟨g, (i + 1) * 2, none⟩ : Addr).add j) = ⟨g, (i + 1) * 2 + j, none⟩ := by unfold Addr.add; split <;> simp_all
          rw [this, cell_row]
          have hrw : rowOf W g = R := by simp [rowOf, hW, objRow]
          rw [hrw, hcs _ hjl, mkL_at hjl]
        · rw [List.getElem?_eq_none (by rw [hnews]; omega)] at hj
          cases hj) (fun u hu => hone u (List.mem_of_mem_drop hu)) (by omega) (by rw [hs0, hnews]; omega)
    rw [hs0, ← hC, show i + (N - i) = N by omega] at hr
    have hgW : g < W.heap.size := (Array.getElem?_eq_some_iff.1 hW).1
    have hfrW : frOf W g = (0, 0) := by simp [frOf, hW, objFr]
    exact ⟨_, hr, by rw [row_setRow _ _ _ _ (by rw [show rowOf W g = R by simp [rowOf, hW, objRow]]; omega), if_pos rfl], by rw [fr_setRow]; exact hfrW, by simp, Below.setRow (Below.refl _ _) hbg _⟩
  have HAPH := Lib.hid HAP
  have HCT := Lib.hid hCt
  have hzs : (Builtin.zeroCells z.cells (N + 1 - N)).size = 2 := by rw [size_zeroCells, hz2]; omega
  have HCL := Lib.hid (fun (W : World) (h1 : rowOf W g = C) (h2 : frOf W g = (0, 0)) ty => run_clear_wide W _ _ ty z 2 Tryz.underlying35 hz1 hz2 hz3 g (N * 2) (N + 1 - N) (cap - N) (by omega) (by rw [h1]; omega) h2)
  generalize Builtin.zeroCells z.cells (N + 1 - N) = zc at *
  clear HAP hCt hRt hC hRl hnews hcs hone hz1 hz3 hz0 hb0 hc0 hown
  have hi2 : (i : Int) < ((N + 1 : Nat) : Int) := by omega
  have hne1 : ((i : Int) == (i : Int) + 1) = false := by rw [beq_eq_false_iff_ne]; omega
  have hne2 : ¬ (i : Int) = (i : Int) + 1 := by omega
  have e3 : ∀ W : World, (Instr.slice 35 (.slice (some ⟨g, 0, none⟩) (N + 1) cap) (some (.int .i64 (i : Int))) (some (.int .i64 ((i : Int) + 1))) (some (.int .i64 ((N : Int) + 1)))).run Tryz.prog W = .ok (.slice (some ⟨g, i * 2, none⟩) 1 (N + 1 - i)) W := fun W => by
    rw [run_slice_at _ _ i0 Tryz.underlying35 hi0 _ _ _ _ _ _ _ _ _ (bounds_three (N + 1) cap (i : Int) ((i : Int) + 1) ((N : Int) + 1) (by omega) (by omega) (by omega)), if_neg (by omega), hs0]
    simp only [Option.map_some, addr_add0]
    rw [show ((i : Int) + 1).toNat - (i : Int).toNat = 1 by omega, show ((N : Int) + 1).toNat - (i : Int).toNat = N + 1 - i by omega, Int.toNat_natCast]
  have e1 : ∀ W : World, (Instr.slice 35 (.slice (some ⟨g, 0, none⟩) (N + 1) cap) none (some (.int .i64 (i : Int))) none).run Tryz.prog W = .ok (.slice (some ⟨g, 0, none⟩) i cap) W := fun W => by
    rw [run_slice_at _ _ i0 Tryz.underlying35 hi0 _ _ _ _ _ _ _ _ _ (bounds_high (N + 1) cap (i : Int) (by omega)), if_neg (by omega)]
    simp only [Option.map_some, addr_add0]
    rw [Nat.zero_mul, Nat.sub_zero, Nat.sub_zero, Int.toNat_natCast]
  obtain ⟨ad, c2, had, e2⟩ : ∃ ad c2, (ad = (⟨g, (i + 1) * 2, none⟩ : Addr) ∨ N - i = 0) ∧ ∀ W : World, (Instr.slice 35 (.slice (some ⟨g, 0, none⟩) (N + 1) cap) (some (.int .i64 ((i : Int) + 1))) none none).run Tryz.prog W = .ok (.slice (some ad) (N - i) c2) W := by
    by_cases hic : cap = i + 1
    · refine ⟨⟨g, 0, none⟩, cap - (i + 1), .inr (by omega), fun W => ?_⟩
      rw [run_slice_at _ _ i0 Tryz.underlying35 hi0 _ _ _ _ _ _ _ _ _ (bounds_low (N + 1) cap ((i : Int) + 1) (by omega)), if_pos (by omega)]
      rw [show N + 1 - ((i : Int) + 1).toNat = N - i by omega, show cap - ((i : Int) + 1).toNat = cap - (i + 1) by omega]
    · refine ⟨⟨g, (i + 1) * 2, none⟩, cap - (i + 1), .inl rfl, fun W => ?_⟩
      rw [run_slice_at _ _ i0 Tryz.underlying35 hi0 _ _ _ _ _ _ _ _ _ (bounds_low (N + 1) cap ((i : Int) + 1) (by omega)), if_neg (by omega), hs0]
      simp only [Option.map_some, addr_add0]
      rw [show N + 1 - ((i : Int) + 1).toNat = N - i by omega, show cap - ((i : Int) + 1).toNat = cap - (i + 1) by omega, show ((i : Int) + 1).toNat = i + 1 by omega]
  have e4 : ∀ W : World, (Instr.slice 35 (.slice (some ⟨g, 0, none⟩) N cap) (some (.int .i64 (N : Int))) (some (.int .i64 ((N : Int) + 1))) none).run Tryz.prog W = .ok (.slice (some ⟨g, N * 2, none⟩) (N + 1 - N) (cap - N)) W := fun W => by
    rw [run_slice_at _ _ i0 Tryz.underlying35 hi0 _ _ _ _ _ _ _ _ _ (bounds_two N cap (N : Int) ((N : Int) + 1) (by omega) (by omega)), if_neg (by omega), hs0]
    simp only [Option.map_some, addr_add0]
    rw [Int.toNat_natCast, show ((N : Int) + 1).toNat = N + 1 by omega]
  clear hi0 hs0
  go_enter Tryz.func50, Tryz.ntmps50
  go_wp2
  refine wp_region_still_tail 6 (by kernel_rfl) (by kernel_rfl) ?_
  simp only [List.take_succ_cons, List.take_zero, List.drop_succ_cons, List.drop_zero, World.drew_eq]
  repeat (refine wpStill_step (fun K hK => ?_); go_simp; refine hK _ ?_; clear hK K)
  try refine wpStill_nil ?_
  go_wp2_with (at_builtin; generalize hZZ : wpList _ _ _ _ _ _ = ZZ)
  subst hZZ
  obtain ⟨W1, hrun, r1, f1, s1, b1⟩ := HAPH.out w.drew ad c2 hgh had 35
  refine Lib.wpList_append_run _ rfl _ _ _ _ rfl _ _ rfl rfl _ _ hrun ?_
  have hcl := HCL.out W1 r1 f1
  rw [show N + 1 - N = 1 by omega] at hcl
  clear hrun e1 e2 e3
  go_wp2
  go_ret
  have hgW : g < W1.heap.size := by rw [s1]; exact hg
  have hrow : ∀ D : Array Value, rowOf (W1.setRow g D) g = D := fun D => by rw [row_setRow _ _ _ _ (by rw [r1]; omega), if_pos rfl]
  refine ⟨rfl, .inr ⟨g, cap, rfl, hbg, by simpa using hgW, by rw [fr_setRow]; exact f1, ?_, fun k hk j hj => ?_⟩, Below.setRow (below_step b1 (Nat.le_refl _) (Below.drew (Below.refl _ _))) hbg _⟩
  · rw [hrow, splice_size]; omega
  · rw [hrow, splice_get _ _ _ _ (by rw [hzs]; omega), if_neg (by omega), HCT.out _ (by omega)]
    rw [show (k * 2 + j) / 2 = k by omega, show (k * 2 + j) % 2 = j by omega]
end Go.Proofs.YtejnejplofddnaaGreatDoor
