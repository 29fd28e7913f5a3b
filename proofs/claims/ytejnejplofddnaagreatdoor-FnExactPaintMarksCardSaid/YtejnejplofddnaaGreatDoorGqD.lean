/- Several texts in one: OrderI SetS That Ins Stack InsI SetI. -/
import Derived.Test.YtejnejplofddnaaGreatDoorGqC
import Derived.Test.YtejnejplofddnaaGreatDoorHeld
import Derived.Test.YtejnejplofddnaaGreatDoorShelfE
import Derived.Shelf.SlSortCmp.WholeK
import Derived.Test.YtejnejplofddnaaGreatDoorGqA
import Derived.Test.YtejnejplofddnaaGreatDoorWaterI
import Derived.Lib.SliceRun
import Derived.Laws.CopyRow
import Derived.Laws.AppendOwn
import Derived.Lib.Overlaps
import Derived.Deep.RegionLaw
import Derived.Test.YtejnejplofddnaaGreatDoorShapes
import Derived.Test.YtejnejplofddnaaGreatDoorGqB
import Derived.Laws.MakeOwn
import Derived.StillTailTactics
import Derived.Lib.AppendZeros
/- The program's order of places, told to the library's sort. -/
namespace Go.Proofs.YtejnejplofddnaaGreatDoor
open Go.RowKit Go.Shelf Go.Lib Go.Sort
set_option linter.unusedVariables false
set_option linter.unusedSimpArgs false
set_option maxRecDepth 100000
/-- Which of two numbers is less; which of two places comes first. -/
def cpI (x y : Int) : Int := if x < y then -1 else if y < x then 1 else 0
def cpS (a b : Int × Int) : Int := if cpI a.2 b.2 ≠ 0 then cpI a.2 b.2 else cpI a.1 b.1
def encS (a : Int × Int) : List Value := [.int .i8 a.1, .int .i8 a.2]
theorem cpI_lt {x y : Int} : cpI x y < 0 ↔ x < y := by
  unfold cpI
  split
  · omega
  · split <;> omega
theorem cpI_eq {x y : Int} : cpI x y = 0 ↔ x = y := by
  unfold cpI
  split
  · omega
  · split <;> omega
theorem ltS (a b : Int × Int) : ltOf cpS a b = decide (a.2 < b.2 ∨ (a.2 = b.2 ∧ a.1 < b.1)) := by
  unfold ltOf cpS
  rw [decide_eq_decide]
  by_cases h : a.2 = b.2
  · rw [if_neg (by rw [cpI_eq.2 h]; simp), cpI_lt]
    constructor
    · intro g; exact .inr ⟨h, g⟩
    · rintro (g | g)
      · omega
      · exact g.2
  · rw [if_pos (fun e => h (cpI_eq.1 e)), cpI_lt]
    constructor
    · intro g; exact .inl g
    · rintro (g | g)
      · exact g
      · exact absurd g.1 h
theorem swoS : SWO (ltOf cpS) where
  irrefl x := by rw [ltS]; simp
  trans x y z h1 h2 := by rw [ltS] at *; simp at *; omega
  ntrans x y z h1 h2 := by rw [ltS] at *; simp at *; omega
theorem isNaN_any (x : Int) (w : World) : Calls Tryz.prog 171 #[.int .i8 x] w fun e w' => e = .returned (.bool false) ∧ w' = w := by
  go_enter Tryz.func171, Tryz.ntmps171
  go_wp2
  go_ret
  exact ⟨rfl, rfl⟩
theorem compare_any (x y : Int) (w : World) : Calls Tryz.prog 133 #[.int .i8 x, .int .i8 y] w fun e w' => e = .returned (.int .i64 (cpI x y)) ∧ w' = w := by
  unfold cpI
  by_cases h1 : x < y
  · have h2 : decide (x < y) = true := decide_eq_true h1
    rw [if_pos h1]
    go_enter Tryz.func133, Tryz.ntmps133
    go_wp2_with (go_at_call 171; refine (isNaN_any _ _).mono ?_; rintro e w1 ⟨rfl, rfl⟩)
    go_ret
    exact ⟨rfl, rfl⟩
  · rw [if_neg h1]
    by_cases h3 : y < x
    · rw [if_pos h3]
      go_enter Tryz.func133, Tryz.ntmps133
      go_wp2_with (go_at_call 171; refine (isNaN_any _ _).mono ?_; rintro e w1 ⟨rfl, rfl⟩)
      go_ret
      exact ⟨rfl, rfl⟩
    · rw [if_neg h3]
      go_enter Tryz.func133, Tryz.ntmps133
      go_wp2_with (go_at_call 171; refine (isNaN_any _ _).mono ?_; rintro e w1 ⟨rfl, rfl⟩)
      go_ret
      exact ⟨rfl, rfl⟩
theorem or_any (b : Nat) (c1 c2 : Int) (w : World) (hr : rowOf w b = #[.int .i64 c1, .int .i64 c2]) (hb : b < w.heap.size) : Calls Tryz.prog 132 #[.slice (some ⟨b, 0, none⟩) 2 2] w fun e w' => e = .returned (.int .i64 (if c1 ≠ 0 then c1 else c2)) ∧ w' = w := by
  go_enter Tryz.func132, Tryz.ntmps132
  go_wp2
  go_loopw [8] (fun i wr => wr = w ∧ (i = .int .i64 (0 : Nat) ∨ (i = .int .i64 (1 : Nat) ∧ c1 = 0) ∨ (i = .int .i64 (2 : Nat) ∧ c1 = 0 ∧ c2 = 0))) (fun i wr => 3 - (intOf i).toNat)
  case atStart => exact ⟨rfl, .inl rfl⟩
  case round =>
    obtain ⟨rfl, rfl | ⟨rfl, h1⟩ | ⟨rfl, h1, h2⟩⟩ := hrel
    · by_cases h1 : c1 = 0
      · subst h1
        go_wp2
        go_roundw
        case rel => simp
        case measure => simp [intOf]
      · have h2 : (c1 == 0) = false := by rw [beq_eq_false_iff_ne]; exact h1
        go_wp2
        go_ret
        exact ⟨by first | rfl | rw [if_pos h1], rfl⟩
    · subst h1
      by_cases h1 : c2 = 0
      · subst h1
        go_wp2
        go_roundw
        case rel => simp
        case measure => simp [intOf]
      · have h2 : (c2 == 0) = false := by rw [beq_eq_false_iff_ne]; exact h1
        go_wp2
        go_ret
        exact ⟨rfl, rfl⟩
    · subst h1
      subst h2
      go_wp2
      go_ret
      exact ⟨rfl, rfl⟩
set_option maxHeartbeats 4000000 in
theorem inOrder_any (a b : Int × Int) (w : World) : Calls Tryz.prog 107 #[.agg #[.int .i8 a.1, .int .i8 a.2], .agg #[.int .i8 b.1, .int .i8 b.2]] w fun e w' => e = .returned (.int .i64 (cpS a b)) ∧ ∃ q os', w' = grow (w.drewN q) os' := by
  obtain ⟨x1, x2⟩ := a
  obtain ⟨y1, y2⟩ := b
  have HC1 := Lib.hid (fun w => compare_any x2 y2 w)
  have HC2 := Lib.hid (fun w => compare_any x1 y1 w)
  have HV0 : cpS (x1, x2) (y1, y2) = if cpI x2 y2 ≠ 0 then cpI x2 y2 else cpI x1 y1 := rfl
  generalize cpI x2 y2 = c1 at *
  generalize cpI x1 y1 = c2 at *
  have HO0 := fun b w h1 h2 => or_any b c1 c2 w h1 h2
  rw [← HV0] at HO0
  clear HV0
  generalize cpS (x1, x2) (y1, y2) = r at *
  have HO := Lib.hid HO0
  clear HO0
  go_enter Tryz.func107, Tryz.ntmps107
  go_wp2
  (refine wp_region_held (S := fun w' => rowOf w' (w.heap.size) = #[.int .i8 x1, .int .i8 x2] ∧ rowOf w' (w.heap.size + 1) = #[.int .i8 y1, .int .i8 y2]) (by kernel_rfl) ?_); (simp only [World.drew_eq]); (refine wpAnyH_take (i := 0) (v := .pointer (some ⟨w.heap.size, 1, none⟩)) rfl (by kernel_rfl) (by kernel_rfl) (by kernel_rfl) (fun _ _ _ h => h) (.inl ⟨by first | (simp [Region.wanted]; done) | rfl | simp [Region.wanted, yielded], fun w _ => by unfold execOp; go_simp⟩) ⟨by go_simp, by go_simp⟩ ?_); (try simp only [Act.put, Act.eval, List.getElem_toArray, List.getElem_cons_zero, List.getElem_cons_succ, List.setIfInBounds_toArray, List.set_cons_zero, List.set_cons_succ, Array.getD_eq_getD_getElem?, List.getElem?_toArray, List.getElem?_cons_zero, List.getElem?_cons_succ, Option.getD_some]); (refine wpAnyH_take (i := 1) rfl (by kernel_rfl) (by kernel_rfl) (by kernel_rfl) (fun _ _ _ h => h) (yieldsIf_load (v := .int .i8 x2) rfl rfl rfl (fun w ⟨h0, h1⟩ => by go_simp)) ⟨by go_simp, by go_simp⟩ ?_); (try simp only [Act.put, Act.eval, List.getElem_toArray, List.getElem_cons_zero, List.getElem_cons_succ, List.setIfInBounds_toArray, List.set_cons_zero, List.set_cons_succ, Array.getD_eq_getD_getElem?, List.getElem?_toArray, List.getElem?_cons_zero, List.getElem?_cons_succ, Option.getD_some]); (refine wpAnyH_take (i := 2) (v := .pointer (some ⟨w.heap.size + 1, 1, none⟩)) rfl (by kernel_rfl) (by kernel_rfl) (by kernel_rfl) (fun _ _ _ h => h) (.inl ⟨by first | (simp [Region.wanted]; done) | rfl | simp [Region.wanted, yielded], fun w _ => by unfold execOp; go_simp⟩) ⟨by go_simp, by go_simp⟩ ?_); (try simp only [Act.put, Act.eval, List.getElem_toArray, List.getElem_cons_zero, List.getElem_cons_succ, List.setIfInBounds_toArray, List.set_cons_zero, List.set_cons_succ, Array.getD_eq_getD_getElem?, List.getElem?_toArray, List.getElem?_cons_zero, List.getElem?_cons_succ, Option.getD_some]); (refine wpAnyH_take (i := 3) rfl (by kernel_rfl) (by kernel_rfl) (by kernel_rfl) (fun _ _ _ h => h) (yieldsIf_load (v := .int .i8 y2) rfl rfl rfl (fun w ⟨h0, h1⟩ => by go_simp)) ⟨by go_simp, by go_simp⟩ ?_); (try simp only [Act.put, Act.eval, List.getElem_toArray, List.getElem_cons_zero, List.getElem_cons_succ, List.setIfInBounds_toArray, List.set_cons_zero, List.set_cons_succ, Array.getD_eq_getD_getElem?, List.getElem?_toArray, List.getElem?_cons_zero, List.getElem?_cons_succ, Option.getD_some]); (refine wpAnyH_take (i := 5) (v := .pointer (some ⟨w.heap.size, 0, none⟩)) rfl (by kernel_rfl) (by kernel_rfl) (by kernel_rfl) (fun _ _ _ h => h) (.inl ⟨by first | (simp [Region.wanted]; done) | rfl | simp [Region.wanted, yielded], fun w _ => by unfold execOp; go_simp⟩) ⟨by go_simp, by go_simp⟩ ?_); (try simp only [Act.put, Act.eval, List.getElem_toArray, List.getElem_cons_zero, List.getElem_cons_succ, List.setIfInBounds_toArray, List.set_cons_zero, List.set_cons_succ, Array.getD_eq_getD_getElem?, List.getElem?_toArray, List.getElem?_cons_zero, List.getElem?_cons_succ, Option.getD_some]); (refine wpAnyH_take (i := 6) rfl (by kernel_rfl) (by kernel_rfl) (by kernel_rfl) (fun _ _ _ h => h) (yieldsIf_load (v := .int .i8 x1) rfl rfl rfl (fun w ⟨h0, h1⟩ => by go_simp)) ⟨by go_simp, by go_simp⟩ ?_); (try simp only [Act.put, Act.eval, List.getElem_toArray, List.getElem_cons_zero, List.getElem_cons_succ, List.setIfInBounds_toArray, List.set_cons_zero, List.set_cons_succ, Array.getD_eq_getD_getElem?, List.getElem?_toArray, List.getElem?_cons_zero, List.getElem?_cons_succ, Option.getD_some]); (refine wpAnyH_take (i := 7) (v := .pointer (some ⟨w.heap.size + 1, 0, none⟩)) rfl (by kernel_rfl) (by kernel_rfl) (by kernel_rfl) (fun _ _ _ h => h) (.inl ⟨by first | (simp [Region.wanted]; done) | rfl | simp [Region.wanted, yielded], fun w _ => by unfold execOp; go_simp⟩) ⟨by go_simp, by go_simp⟩ ?_); (try simp only [Act.put, Act.eval, List.getElem_toArray, List.getElem_cons_zero, List.getElem_cons_succ, List.setIfInBounds_toArray, List.set_cons_zero, List.set_cons_succ, Array.getD_eq_getD_getElem?, List.getElem?_toArray, List.getElem?_cons_zero, List.getElem?_cons_succ, Option.getD_some]); (refine wpAnyH_take (i := 8) rfl (by kernel_rfl) (by kernel_rfl) (by kernel_rfl) (fun _ _ _ h => h) (yieldsIf_load (v := .int .i8 y1) rfl rfl rfl (fun w ⟨h0, h1⟩ => by go_simp)) ⟨by go_simp, by go_simp⟩ ?_); (try simp only [Act.put, Act.eval, List.getElem_toArray, List.getElem_cons_zero, List.getElem_cons_succ, List.setIfInBounds_toArray, List.set_cons_zero, List.set_cons_succ, Array.getD_eq_getD_getElem?, List.getElem?_toArray, List.getElem?_cons_zero, List.getElem?_cons_succ, Option.getD_some]); (refine wpAnyH_one (i := 4) (by kernel_rfl) rfl rfl ?_); (go_simp); (first | (go_at_call 133; with_reducible refine (HC1.out _).mono ?_; rintro e w1 ⟨rfl, rfl⟩) | (go_at_call 133; with_reducible refine (HC2.out _).mono ?_; rintro e w1 ⟨rfl, rfl⟩)); (refine ⟨⟨by go_simp, by go_simp⟩, ?_⟩); (try simp only [Act.put, Act.eval, List.getElem_toArray, List.getElem_cons_zero, List.getElem_cons_succ, List.setIfInBounds_toArray, List.set_cons_zero, List.set_cons_succ, Array.getD_eq_getD_getElem?, List.getElem?_toArray, List.getElem?_cons_zero, List.getElem?_cons_succ, Option.getD_some]); (refine wpAnyH_one (i := 9) (by kernel_rfl) rfl rfl ?_); (go_simp); (first | (go_at_call 133; with_reducible refine (HC1.out _).mono ?_; rintro e w1 ⟨rfl, rfl⟩) | (go_at_call 133; with_reducible refine (HC2.out _).mono ?_; rintro e w1 ⟨rfl, rfl⟩)); (refine ⟨⟨by go_simp, by go_simp⟩, ?_⟩); (try simp only [Act.put, Act.eval, List.getElem_toArray, List.getElem_cons_zero, List.getElem_cons_succ, List.setIfInBounds_toArray, List.set_cons_zero, List.set_cons_succ, Array.getD_eq_getD_getElem?, List.getElem?_toArray, List.getElem?_cons_zero, List.getElem?_cons_succ, Option.getD_some])
  refine wpAnyH_one (i := 10) (by kernel_rfl) rfl rfl ?_
  refine oper_hid (fun RR hRR => ?_)
  go_simp
  refine hRR _ _ ⟨⟨by go_simp, by go_simp⟩, ?_⟩
  clear hRR RR
  try simp only [Act.put, Act.eval, List.getElem_toArray, List.getElem_cons_zero, List.getElem_cons_succ, List.setIfInBounds_toArray, List.set_cons_zero, List.set_cons_succ, Array.getD_eq_getD_getElem?, List.getElem?_toArray, List.getElem?_cons_zero, List.getElem?_cons_succ, Option.getD_some]
  refine wpAnyH_one (i := 11) (by kernel_rfl) rfl rfl ?_
  refine oper_hid (fun RR hRR => ?_)
  go_simp
  go_at_call 132
  refine (HO.out _ _ (by go_simp) (by simp)).mono ?_
  rintro e w2 ⟨rfl, rfl⟩
  refine hRR _ _ ⟨⟨by go_simp, by go_simp⟩, ?_⟩
  clear hRR RR
  try simp only [Act.put, Act.eval, List.getElem_toArray, List.getElem_cons_zero, List.getElem_cons_succ, List.setIfInBounds_toArray, List.set_cons_zero, List.set_cons_succ, Array.getD_eq_getD_getElem?, List.getElem?_toArray, List.getElem?_cons_zero, List.getElem?_cons_succ, Option.getD_some]
  refine wpAnyH_take (i := 12) rfl (by kernel_rfl) (by kernel_rfl) (by kernel_rfl) (fun _ _ _ h => h) (yieldsIf_assign rfl rfl) ⟨by go_simp, by go_simp⟩ ?_
  try simp only [Act.put, Act.eval, List.getElem_toArray, List.getElem_cons_zero, List.getElem_cons_succ, List.setIfInBounds_toArray, List.set_cons_zero, List.set_cons_succ, Array.getD_eq_getD_getElem?, List.getElem?_toArray, List.getElem?_cons_zero, List.getElem?_cons_succ, Option.getD_some]
  refine wpAnyH_done (by kernel_rfl) ?_ _
  go_wp2
  go_ret
  refine ⟨rfl, 1, #[.cells #[.int .i8 x1, .int .i8 x2] 59, .cells #[.int .i8 y1, .int .i8 y2] 59, .cells #[.int .i64 c1, .int .i64 c2] 3], ?_⟩
  rw [alloc_eq_grow, alloc_eq_grow, alloc_eq_grow, grow_grow, grow_grow]
  rfl
end Go.Proofs.YtejnejplofddnaaGreatDoor
/- The library's sort at places: what it leaves. -/
namespace Go.Proofs.YtejnejplofddnaaGreatDoor
open Go.RowKit Go.Shelf Go.Lib Go.Sort
set_option linter.unusedVariables false
set_option linter.unusedSimpArgs false
set_option maxRecDepth 100000
def prs (f : Nat → Int) (n : Nat) : Array (Int × Int) := (Array.range n).map fun j => (f (j * 2), f (j * 2 + 1))
def unp (d : Array (Int × Int)) (j : Nat) : Int := if j % 2 = 0 then d[j / 2]!.1 else d[j / 2]!.2
theorem prs_size (f : Nat → Int) (n : Nat) : (prs f n).size = n := by simp [prs]
theorem prs_at (f : Nat → Int) {n j : Nat} (hj : j < n) : (prs f n)[j]! = (f (j * 2), f (j * 2 + 1)) := by simp [prs, hj]
theorem flat_at (d : Array (Int × Int)) {t : Nat} (h : t < d.size * 2) : (flatK encS 2 d)[t]! = .int .i8 (unp d t) := by
  rw [get_flatK _ _ _ _ h]
  unfold encS unp
  rcases Nat.mod_two_eq_zero_or_one t with h0 | h1
  · rw [h0]; rfl
  · rw [h1]; rfl
theorem unp_prs (f : Nat → Int) {n t : Nat} (h : t < n * 2) : unp (prs f n) t = f t := by
  unfold unp
  rw [prs_at f (show t / 2 < n by omega)]
  split
  · show f (t / 2 * 2) = f t
    congr 1; omega
  · show f (t / 2 * 2 + 1) = f t
    congr 1; omega
theorem sortW_below (w : World) (g m : Nat) (d : Array (Int × Int)) (os : Array Obj) (hg : g < w.heap.size) : Below g w (sortWorldK encS 2 w g 0 m d os) ∧ frOf (sortWorldK encS 2 w g 0 m d os) g = frOf w g ∧ w.heap.size ≤ (sortWorldK encS 2 w g 0 m d os).heap.size := by
  have hs : w.heap.size ≤ (sortWorldK encS 2 w g 0 m d os).heap.size := size_sortWorldK_c encS 2 w g 0 m d os
  have hk : ∀ k, k < w.heap.size → (sortWorldK encS 2 w g 0 m d os).heap[k]? = (w.heap.modify g (onCells (putCells id 0 (flatK encS 2 d))))[k]? := fun k hk => by
    show ((w.heap.modify g (onCells (putCells id 0 (flatK encS 2 d)))) ++ os)[k]? = _
    rw [Array.getElem?_append_left (by simpa using hk)]
  refine ⟨⟨rfl, rfl, rfl, hs, fun k hk2 => ?_⟩, ?_, hs⟩
  · rw [hk k (by omega), Array.getElem?_modify, if_neg (by omega)]
  · unfold frOf
    rw [hk g hg, Array.getElem?_modify, if_pos rfl]
    cases w.heap[g]? with
    | none => rfl
    | some o => cases o <;> rfl
set_option maxHeartbeats 2000000 in
theorem sort_spots (g n cap : Nat) (f : Nat → Int) (hn : n ≤ 1048576) (w : World) (hr : ∀ j, j < n * 2 → (rowOf w g)[j]? = some (.int .i8 (f j))) (hfr : frOf w g = (0, 0)) (hg : g < w.heap.size) :
    Calls Tryz.prog 106 #[.slice (some ⟨g, 0, none⟩) n cap, .func (.func 107) #[] #[]] w fun e w' => e = .returned (.tuple #[]) ∧ ∃ d' : Array (Int × Int), PermIn 0 n (prs f n) d' ∧ SortedIn (ltOf cpS) 0 n d' ∧ (∀ j, j < n * 2 → (rowOf w' g)[j]? = some (.int .i8 (unp d' j))) ∧ frOf w' g = (0, 0) ∧ w.heap.size ≤ w'.heap.size ∧ Below g w w' := by
  have eg : ∀ args w, (callFunc 107 args).run Tryz.prog w = .ok (.enter 107 args) w := enters_of Tryz.func107 (by kernel_rfl) rfl
  have hcl : ∀ (W : World) (d : Array (Int × Int)), d.size = n → (∀ j, j < n * 2 → (rowOf W g)[j]? = some (.int .i8 (unp d j))) → frOf W g = (0, 0) → HoldsK encS 2 W g 0 d := fun W d hd h1 h2 j hj => by
    rw [size_flatK, hd] at hj
    rw [Nat.zero_add, cell_row, h1 j hj, flat_at d (by rw [hd]; exact hj)]
    exact ⟨rfl, by rw [frozen_row, h2]; simp⟩
  have hH := hcl w (prs f n) (prs_size f n) (fun j hj => by rw [unp_prs f hj]; exact hr j hj) hfr
  have hcmp : CmpLays Tryz.prog 107 #[] encS 2 cpS g 0 (prs f n).size w := fun m os dk _ x y => inOrder_any x y (sortWorldK encS 2 w g 0 m dk os)
  have hcon := AnyQ.slices_SortFunc Tryz.sortSpot 2 Tryz.isAgg59 Tryz.sizeOf59 encS (fun _ => rfl) (fun x v hv => by simp [encS] at hv; rcases hv with rfl | rfl <;> rfl) cpS swoS 107 #[] g 0 cap (prs f n) w eg hcmp hH hg (by rw [prs_size]; omega)
  rw [prs_size] at hcon
  refine hcon.mono fun e w' ⟨he, d', m, os, hp, hs, hw⟩ => ?_
  have hd : d'.size = n := hp.1.trans (prs_size f n)
  obtain ⟨hb, hf2, hsz⟩ := sortW_below w g m d' os hg
  have hh := holdsK_sortWorldK_c encS 2 w g 0 (prs f n) d' m os hH hg (by rw [hd, prs_size])
  subst hw
  refine ⟨he, d', hp, hs, fun j hj => ?_, hf2.trans hfr, hsz, hb⟩
  have := (hh j (by rw [size_flatK, hd]; exact hj)).1
  rw [Nat.zero_add, cell_row] at this
  rw [this, flat_at d' (by rw [hd]; exact hj)]; rfl
end Go.Proofs.YtejnejplofddnaaGreatDoor
/- The cells of a sheet that something holds for: deleted from the list of all cells, in place. -/
namespace Go.Proofs.YtejnejplofddnaaGreatDoor
open Go.RowKit
set_option linter.unusedVariables false
set_option linter.unusedSimpArgs false
set_option maxRecDepth 100000
/-- A slice of rows is cleared. -/
theorem run_clear_wide {P : Program} (w : World) (t e ty : TypeId) (z : Value) (s : Nat) (ht : P.underlying t = some (.slice e)) (hv : ∀ w, (zeroValue e).run P w = .ok z w) (hz : z.cells.size = s) (h1 : ∀ (n : Nat), ∀ u ∈ (Builtin.zeroCells z.cells n).toList, u.oneCell' = true) (b o n c : Nat) (hn : 0 < n)
    (hfit : o + n * s ≤ (rowOf w b).size) (hfr : frOf w b = (0, 0)) :
    (Builtin.clear_ #[t] ty #[.slice (some ⟨b, o, none⟩) n c]).run P w = .ok (.tuple #[]) (w.setRow b (splice (rowOf w b) o (Builtin.zeroCells z.cells n))) := by
  have hl : (Builtin.zeroCells z.cells n).toList.length = n * s := by rw [Array.length_toList, size_zeroCells, hz]
  have hst := run_storeCells_cells (P := P) b o (Builtin.zeroCells z.cells n).toList 0 w (fun j hj => by
      rw [cell_row, Nat.add_zero]
      rw [hl] at hj
      rw [Array.getElem?_eq_getElem (by omega)]; rfl) (fun j hj => by rw [frozen_row, hfr]; simp) (h1 n)
  simp only [Nat.add_zero] at hst
  obtain ⟨m, rfl⟩ : ∃ m, n = m + 1 := ⟨n - 1, by omega⟩
  rw [setCells_eq_setRow b _ o w (by rw [hl]; omega), Array.toArray_toList] at hst
  simp [Builtin.clear_, run_underlying ht, hv, hst]
theorem spot_zero : ∃ z, (∀ w, (zeroValue 59).run Tryz.prog w = .ok z w) ∧ z.cells.size = 2 ∧ ∀ (n : Nat), ∀ u ∈ (Builtin.zeroCells z.cells n).toList, u.oneCell' = true := by
  have h : (match Tryz.prog.info? 59 with | some i => (match i.zero with | some z => z.cells.size == 2 && z.cells.all (·.oneCell') | none => false) | none => false) = true := by kernel_rfl
  split at h
  · rename_i i hi
    split at h
    · rename_i z hz
      simp only [Bool.and_eq_true, beq_iff_eq] at h
      refine ⟨z, fun w => by simp [zeroValue, typeInfo, hi, hz], h.1, fun n u hu => ?_⟩
      simp only [Builtin.zeroCells, Array.toList_map, List.mem_map] at hu
      obtain ⟨i, -, rfl⟩ := hu
      have hlt : i % z.cells.size < z.cells.size := Nat.mod_lt _ (by omega)
      rw [getElem!_pos z.cells _ hlt]
      exact (Array.all_eq_true.1 h.2) _ hlt
    · cases h
  · cases h
/-- All old blocks but one read as before. -/
def Keeps (g : Nat) (w w2 : World) : Prop := w.heap.size ≤ w2.heap.size ∧ ∀ b, b ≠ g → b < w.heap.size → rowOf w2 b = rowOf w b
theorem keeps_below {g : Nat} {w w2 : World} (h : Below w.heap.size w w2) : Keeps g w w2 := ⟨h.size, fun b _ hb => keep_row h hb⟩
theorem keeps_after {g : Nat} {w w2 w3 : World} (h : Keeps g w w2) (h2 : Below w2.heap.size w2 w3) : Keeps g w w3 := ⟨Nat.le_trans h.1 h2.size, fun b hb hbw => (keep_row h2 (Nat.lt_of_lt_of_le hbw h.1)).trans (h.2 b hb hbw)⟩
theorem sel_lt {U : Nat → Bool} {i : Nat} (hU : U i = false) : ∀ j, i < j → selN U j < j
  | 0, h => absurd h (by omega)
  | j + 1, h => by
    rcases Nat.lt_succ_iff_lt_or_eq.1 h with h1 | rfl
    · have := sel_lt hU j h1
      rcases Bool.eq_false_or_eq_true (U j) with e | e
      · rw [(sel_yes (W := 0) e).2]; omega
      · rw [(sel_no (W := 0) e).2]; omega
    · have := selN_le U i
      rw [(sel_no (W := 0) hU).2]; omega
theorem del_put {d : Array Value} {U : Nat → Bool} {W j : Nat} (hU : U j = true) (hds : selN U j * 2 + 1 < d.size) (hd : ∀ t, t < selN U j * 2 → d[t]? = (selL U W j)[t]?) :
    ∀ t, t < selN U (j + 1) * 2 → ((d.setIfInBounds (selN U j * 2) (.int .i8 ((j % W : Nat) : Int))).setIfInBounds (selN U j * 2 + 1) (.int .i8 ((j / W : Nat) : Int)))[t]? = (selL U W (j + 1))[t]? := by
  intro t ht
  obtain ⟨h1, h2⟩ := sel_yes (U := U) (W := W) hU
  have hl := selL_len U W j
  rw [h1]
  rw [h2] at ht
  rw [Array.getElem?_setIfInBounds, Array.getElem?_setIfInBounds]
  by_cases e1 : selN U j * 2 + 1 = t
  · subst e1
    rw [if_pos rfl, if_pos (by simp; omega), List.getElem?_append_right (by omega), hl, show selN U j * 2 + 1 - selN U j * 2 = 1 by omega]; rfl
  · rw [if_neg e1]
    by_cases e2 : selN U j * 2 = t
    · subst e2
      rw [if_pos rfl, if_pos (by omega), List.getElem?_append_right (by omega), hl, Nat.sub_self]; rfl
    · rw [if_neg e2, hd t (by omega), List.getElem?_append_left (by omega)]
end Go.Proofs.YtejnejplofddnaaGreatDoor
/- Copies and appends of zeros, elements of several cells; one element put between others. No program. -/
namespace Go.Proofs.YtejnejplofddnaaGreatDoor
open Go.RowKit
set_option linter.unusedVariables false
set_option linter.unusedSimpArgs false
set_option maxRecDepth 100000
theorem take_splice (cur : Array Value) (o : Nat) (cs : List Value) (h : o + cs.length ≤ cur.size) : (cur.toList.take o ++ cs ++ cur.toList.drop (o + cs.length)).toArray = splice cur o cs.toArray := by
  apply Array.ext_getElem?
  intro j
  rw [splice_get _ _ _ _ (by simpa using h), List.getElem?_toArray, List.append_assoc, List.getElem?_append, List.getElem?_append, List.length_take]
  have hm : min o cur.toList.length = o := by rw [Array.length_toList]; omega
  rw [hm, List.size_toArray]
  by_cases h1 : j < o
  · rw [if_pos h1, if_neg (by omega), List.getElem?_take, if_pos h1, Array.getElem?_toList]
  · rw [if_neg h1]
    by_cases h2 : j - o < cs.length
    · rw [if_pos h2, if_pos (by omega), List.getElem?_toArray]
    · rw [if_neg h2, if_neg (by omega), List.getElem?_drop, Array.getElem?_toList]
      congr 1
      omega
theorem run_copy_wide {P : Program} (w : World) (dT sT ty elem : TypeId) (s : Nat) (g o dLen dCap : Nat) (a : Addr) (sLen sCap m : Nat) (cur : Array Value) (t : TypeId) (cs : List Value)
    (hu : P.underlying dT = some (.slice elem)) (hs : (P.info? elem).map (·.size) = some s)
    (hg : w.heap[g]? = some (.cells cur t (0, 0))) (hm : Nat.min sLen dLen = m) (hn : cs.length = m * s)
    (hsrc : ∀ j v, cs[j]? = some v → w.cell? (a.add j) = some v) (hfit : o + cs.length ≤ cur.size) (h1 : ∀ v ∈ cs, v.oneCell' = true) :
    (Builtin.copy_ #[dT, sT] ty #[.slice (some ⟨g, o, none⟩) dLen dCap, .slice (some a) sLen sCap]).run P w =
      .ok (goInt m) (w.setRow g (splice cur o cs.toArray)) := by
  have hl := run_loadCells_list (P := P) w a cs hsrc
  have hst := run_storeCells_at P g o t cs 0 cur w hg (by simpa using hfit) h1
  rw [Nat.add_zero, take_splice cur o cs hfit] at hst
  cases hq : P.info? elem with
  | none => simp [hq] at hs
  | some i =>
    have hi : i.size = s := by simpa [hq] using hs
    simp [Builtin.copy_, run_underlying hu, Builtin.lenOf, Builtin.firstCells, sizeOf, typeInfo, hq, hi, hm, ← hn, hl, hst]
theorem wpList_copy_wide {P : Program} {w : World} {ops : Array Oper} {rest : List Oper} {o : Oper} {a : Act} {Q : Exit → Act → World → Prop} (hgd : o.guard = none) (d x : Operand) (dT sT : TypeId)
    (ho : o.op = .call { callee := .builtin .copy, args := #[d, x], argTypes := #[dT, sT] }) (elem : TypeId) (s : Nat) (hu : P.underlying dT = some (.slice elem)) (hsz : (P.info? elem).map (·.size) = some s)
    (g off dLen dCap : Nat) (ad : Addr) (sLen sCap m : Nat) (hd : a.eval d = .slice (some ⟨g, off, none⟩) dLen dCap) (hx : a.eval x = .slice (some ad) sLen sCap)
    (cur : Array Value) (t : TypeId) (hg : w.heap[g]? = some (.cells cur t (0, 0))) (cs : List Value) (hm : Nat.min sLen dLen = m) (hn : cs.length = m * s)
    (hsrc : ∀ j v, cs[j]? = some v → w.cell? (ad.add j) = some v) (hfit : off + cs.length ≤ cur.size) (h1 : ∀ v ∈ cs, v.oneCell' = true)
    (h : wpList P ops Q rest (a.put o.dst (goInt m)) (w.setRow g (splice cur off cs.toArray))) : wpList P ops Q (o :: rest) a w := by
  refine wpList_plain hgd fun K hK => ?_
  have hrun := run_copy_wide (P := P) w dT sT o.type elem s g off dLen dCap ad sLen sCap m cur t cs hu hsz hg hm hn hsrc hfit h1
  unfold Oper.wp
  simp [execOp, ho, resolve, invoke, builtin, hd, hx, hrun, Result.andThen]
  exact hK _ _ h
theorem step_copy_wide {P : Program} {ops : Array Oper} {o : Oper} {a : Act} {w : World} {K : Act → World → Prop} {Q : Exit → Act → World → Prop} {E : Prop} (hgd : o.guard = none) (d x : Operand) (dT sT : TypeId)
    (ho : o.op = .call { callee := .builtin .copy, args := #[d, x], argTypes := #[dT, sT] }) (elem : TypeId) (s : Nat) (hu : P.underlying dT = some (.slice elem)) (hsz : (P.info? elem).map (·.size) = some s)
    (g off dLen dCap : Nat) (ad : Addr) (sLen sCap m : Nat) (hd : a.eval d = .slice (some ⟨g, off, none⟩) dLen dCap) (hx : a.eval x = .slice (some ad) sLen sCap)
    (cur : Array Value) (t : TypeId) (hg : w.heap[g]? = some (.cells cur t (0, 0))) (cs : List Value) (hm : Nat.min sLen dLen = m) (hn : cs.length = m * s)
    (hsrc : ∀ j v, cs[j]? = some v → w.cell? (ad.add j) = some v) (hfit : off + cs.length ≤ cur.size) (h1 : ∀ v ∈ cs, v.oneCell' = true)
    (h : K (a.put o.dst (goInt m)) (w.setRow g (splice cur off cs.toArray))) :
    if Region.wanted o (yielded ops a.tmps) = true then Oper.wp P o a w K Q else E := by
  have hw : Region.wanted o (yielded ops a.tmps) = true := by simp [Region.wanted, hgd]
  rw [if_pos hw]
  have hrun := run_copy_wide (P := P) w dT sT o.type elem s g off dLen dCap ad sLen sCap m cur t cs hu hsz hg hm hn hsrc hfit h1
  unfold Oper.wp
  simp [execOp, ho, resolve, invoke, builtin, hd, hx, hrun, Result.andThen]
  exact h
/-- An append of n zeros where there is no room for them. -/
theorem run_append_zeros {P : Program} (w : World) (t tn ty e : TypeId) (i : TypeInfo) (z : Value) (k kn : IntKind) (ht : P.underlying t = some (.slice e)) (htn : P.underlying tn = some (.int kn)) (hi : P.info? e = some i) (hz : i.zero = some z)
    (b : Addr) (sLen sCap : Nat) (olds : List Value) (hlo : olds.length = sLen * i.size) (holds : ∀ j v, olds[j]? = some v → w.cell? (b.add j) = some v)
    (n : Nat) (h0 : 0 < n) (hs : 0 < i.size) (hg : sCap < sLen + n) (h63 : ((sLen + n : Nat) : Int) ≤ 9223372036854775807) (h48 : n * i.bytes ≤ 281474976710656) (hfit : Builtin.nextslicecap (sLen + n) sCap * i.bytes ≤ 281474976710656) :
    (Builtin.append_ #[t, tn] ty #[.slice (some b) sLen sCap, .int k n]).run P w =
      .ok (.slice (some ⟨w.heap.size, 0, none⟩) (sLen + n) (grownCap w (sLen + n) sCap e))
        (w.drew.alloc (.cells (olds.toArray ++ Builtin.zeroCells z.cells n ++ Builtin.zeroCells z.cells (grownCap w (sLen + n) sCap e - (sLen + n))) e)) := by
  have hn : n ≠ 0 := by omega
  have hw : IntKind.i64.wrap (n : Int) = n := by rw [IntKind.wrap_i64]; omega
  have hnr : ¬ (sLen + n ≤ sCap) := by omega
  have h63' : ¬ (9223372036854775807 < ((sLen : Int) + (n : Int))) := by omega
  have h48' : ¬ (281474976710656 < Builtin.nextslicecap (sLen + n) sCap * i.bytes) := by omega
  have h48i : ¬ (281474976710656 < (n : Int) * (i.bytes : Int)) := by
    rw [← Int.natCast_mul]
    omega
  have hneg : ¬ ((n : Int) < 0) := by omega
  have hns : ¬ (n * i.size = 0) := Nat.mul_ne_zero hn (by omega)
  have hfo := run_firstCells_some (P := P) w.drew i.size sLen b sLen sCap olds hlo (by simpa using holds)
  simp [Builtin.append_, run_underlying ht, run_underlying htn, sizeOf, typeInfo, zeroValue, hi, hz, asInt, asIntOf, hw, hn, hneg, hns, hnr, h63', h48', h48i, Question.forced, hfo, newRow, grownCap]
/-- The stack with one sheet put in at a place. -/
def insF (F : Nat → Nat → Int) (at' : Nat) (d : Nat → Int) (k : Nat) : Nat → Int := if k < at' then F k else if k = at' then d else F (k - 1)
def shL (F : Nat → Nat → Int) (n : Nat) : List Value := (List.range (n * 266)).map fun j => shV F (j / 266) (j % 266)
theorem shL_len (F : Nat → Nat → Int) (n : Nat) : (shL F n).length = n * 266 := by unfold shL; rw [List.length_map, List.length_range]
theorem shL_at {F : Nat → Nat → Int} {n k j : Nat} (hk : k < n) (hj : j < 266) : (shL F n)[k * 266 + j]? = some (shV F k j) := by
  have hlt : k * 266 + j < n * 266 := by omega
  unfold shL
  rw [List.getElem?_map, List.getElem?_range hlt]
  simp only [Option.map_some]
  congr 2 <;> omega
theorem shL_one {F : Nat → Nat → Int} {n : Nat} : ∀ u ∈ shL F n, u.oneCell' = true := fun u hu => by
  unfold shL at hu
  obtain ⟨j, -, rfl⟩ := List.mem_map.1 hu
  rfl
theorem shL_get {F : Nat → Nat → Int} {n j : Nat} {u : Value} (h : (shL F n)[j]? = some u) : j < n * 266 ∧ u = shV F (j / 266) (j % 266) := by
  have hj := (List.getElem?_eq_some_iff.1 h).1
  rw [shL_len] at hj
  refine ⟨hj, ?_⟩
  have := shL_at (F := F) (n := n) (k := j / 266) (j := j % 266) (by omega) (by omega)
  rw [show j / 266 * 266 + j % 266 = j by omega, h] at this
  exact Option.some.inj this
theorem shL_drop {F : Nat → Nat → Int} {n a k j : Nat} (ha : a ≤ k) (hk : k < n) (hj : j < 266) : ((shL F n).drop (a * 266)).toArray[(k - a) * 266 + j]? = some (shV F k j) := by
  rw [List.getElem?_toArray, List.getElem?_drop, show a * 266 + ((k - a) * 266 + j) = k * 266 + j by omega]
  exact shL_at hk hj
theorem drop_size (F : Nat → Nat → Int) (n a : Nat) : ((shL F n).drop (a * 266)).toArray.size = (n - a) * 266 := by
  rw [List.size_toArray, List.length_drop, shL_len]; omega
theorem ins_grow {F : Nat → Nat → Int} {n a : Nat} {d : Nat → Int} {cur : Array Value} (ha : a < n) (hs : (n + 1) * 266 ≤ cur.size) (hc : ∀ j, j < a * 266 → cur[j]? = (shL F n)[j]?) :
    ∀ k, k < n + 1 → ∀ j, j < 266 → (splice (splice cur (a * 266) (kc sk 266 d)) ((a + 1) * 266) ((shL F n).drop (a * 266)).toArray)[k * 266 + j]? = some (shV (insF F a d) k j) := fun k hk j hj => by
  rw [splice_get _ _ _ _ (by rw [splice_size, drop_size]; omega), drop_size]
  by_cases h1 : a + 1 ≤ k
  · rw [if_pos (by omega)]
    have e := shL_drop (F := F) (n := n) (a := a) (k := k - 1) (j := j) (by omega) (by omega) hj
    rw [show k * 266 + j - (a + 1) * 266 = (k - 1 - a) * 266 + j by omega, e]
    unfold shV insF
    rw [if_neg (by omega), if_neg (by omega)]
  · rw [if_neg (by omega), splice_get _ _ _ _ (by rw [kc_size]; omega), kc_size]
    by_cases h2 : k = a
    · subst h2
      rw [if_pos (by omega), show k * 266 + j - k * 266 = j by omega, kc_get, if_pos hj]
      unfold shV insF
      rw [if_neg (by omega), if_pos rfl]
    · rw [if_neg (by omega), hc _ (by omega), shL_at (by omega) hj]
      unfold shV insF
      rw [if_pos (by omega)]
theorem ins_room {F : Nat → Nat → Int} {n a : Nat} {d : Nat → Int} {cur : Array Value} (ha : a < n) (hs : (n + 1) * 266 ≤ cur.size) (hc : ∀ j, j < n * 266 → cur[j]? = (shL F n)[j]?) :
    ∀ k, k < n + 1 → ∀ j, j < 266 → (splice (splice cur ((a + 1) * 266) ((shL F n).drop (a * 266)).toArray) (a * 266) (kc sk 266 d))[k * 266 + j]? = some (shV (insF F a d) k j) := fun k hk j hj => by
  rw [splice_get _ _ _ _ (by rw [splice_size, kc_size]; omega), kc_size]
  by_cases h2 : k = a
  · subst h2
    rw [if_pos (by omega), show k * 266 + j - k * 266 = j by omega, kc_get, if_pos hj]
    unfold shV insF
    rw [if_neg (by omega), if_pos rfl]
  · rw [if_neg (by omega), splice_get _ _ _ _ (by rw [drop_size]; omega), drop_size]
    by_cases h1 : a + 1 ≤ k
    · rw [if_pos (by omega)]
      have e := shL_drop (F := F) (n := n) (a := a) (k := k - 1) (j := j) (by omega) (by omega) hj
      rw [show k * 266 + j - (a + 1) * 266 = (k - 1 - a) * 266 + j by omega, e]
      unfold shV insF
      rw [if_neg (by omega), if_neg (by omega)]
    · rw [if_neg (by omega), hc _ (by omega), shL_at (by omega) hj]
      unfold shV insF
      rw [if_pos (by omega)]
theorem ins_end {F : Nat → Nat → Int} {n : Nat} {d : Nat → Int} : ∀ k, k < n + 1 → ∀ j, j < 266 → (shL F n ++ (kc sk 266 d).toList)[k * 266 + j]? = some (shV (insF F n d) k j) := fun k hk j hj => by
  rw [List.getElem?_append, shL_len]
  by_cases h : k < n
  · rw [if_pos (by omega), shL_at h hj]
    unfold shV insF
    rw [if_pos h]
  · obtain rfl : k = n := by omega
    rw [if_neg (by omega), show k * 266 + j - k * 266 = j by omega, Array.getElem?_toList, kc_get, if_pos hj]
    unfold shV insF
    rw [if_neg h, if_pos rfl]
theorem owns_emptyW (w : World) (e : TypeId) (s : Nat) : (w.alloc (.cells #[] e)).ownsRow w.heap.size e s (.slice (some ⟨w.heap.size, 0, none⟩) 0 0) 0 [] :=
  ⟨by simp, .inr ⟨w.heap.size, 0, #[], rfl, Nat.le_refl _, by unfold World.alloc; exact Array.getElem?_push_size, Nat.le_refl _, by unfold maxLen; omega, by simp, by simp⟩⟩
theorem append_two {P : Program} (t t' ty e e' : TypeId) (i : TypeInfo) (ht : P.underlying t = some (.slice e)) (ht' : P.underlying t' = some (.slice e')) (hi : P.info? e = some i) (b : Option Addr) (n c : Nat) (y : Value) (w : World) :
    (Builtin.append_ #[t, t'] ty #[.slice b n c, y]).run P w = (Builtin.append_ #[t, t] ty #[.slice b n c, y]).run P w := by
  simp [Builtin.append_, run_underlying ht, run_underlying ht', sizeOf, typeInfo, hi]
theorem fill_all (vs cells : Array Value) (h : cells.size = vs.size) : vs.zipIdx.foldl (fun cs (c, j) => cs.setIfInBounds (0 + j) c) cells = vs := by
  have key := @Array.foldl_induction _ _ vs.zipIdx (fun k cs => cs.size = vs.size ∧ ∀ j, j < k → cs[j]? = vs[j]?) cells ⟨h, fun j hj => absurd hj (by omega)⟩ (fun (cs : Array Value) (p : Value × Nat) => cs.setIfInBounds (0 + p.2) p.1)
    (fun i cs ⟨h1, h2⟩ => by
      have hi : i.val < vs.size := by have := i.isLt; simpa using this
      have e : vs.zipIdx[i.val]'(i.isLt) = (vs[i.val], i.val) := by simp
      refine ⟨by simpa using h1, fun j hj => ?_⟩
      show (cs.setIfInBounds (0 + (vs.zipIdx[i.val]'(i.isLt)).2) (vs.zipIdx[i.val]'(i.isLt)).1)[j]? = vs[j]?
      rw [e, Nat.zero_add]
      by_cases hji : i.val = j
      · subst hji
        rw [Array.getElem?_setIfInBounds_self_of_lt (by omega)]
        simp [hi]
      · rw [Array.getElem?_setIfInBounds_ne (by omega)]
        exact h2 j (by omega))
  show Array.foldl (fun (cs : Array Value) (p : Value × Nat) => cs.setIfInBounds (0 + p.2) p.1) cells vs.zipIdx = vs
  apply Array.ext_getElem?
  intro j
  by_cases hj : j < vs.size
  · exact key.2 j (by simpa using hj)
  · rw [Array.getElem?_eq_none (by have := key.1; omega), Array.getElem?_eq_none (by omega)]
theorem run_buildSlice_one {P : Program} (w : World) (t e : TypeId) (i : TypeInfo) (z : Value) (s : Nat) (ht : P.underlying t = some (.slice e)) (hi : P.info? e = some i) (hz : i.zero = some z) (hs : i.size = s) (h0 : 0 < s) (h24 : s ≤ 16777216) (vs : Array Value) (hvs : vs.size = s) :
    (Instr.buildSlice t 1 #[(0, .agg vs)]).run P w = .ok (.slice (some ⟨w.heap.size, 0, none⟩) 1 1) (w.alloc (.cells vs e)) := by
  have hs0 : ¬ s = 0 := by omega
  have hs1 : ¬ (16777216 < s) := by omega
  have hf : ∀ z : Array Value, Instr.fill (fun i => some (i * s, s)) ((Array.range s).map (z[· % z.size]!)) [(0, .agg vs)] = some vs := fun z => by
    have hc : (Value.agg vs).cells = vs := rfl
    unfold Instr.fill Instr.fill
    simp only [hc, Nat.zero_mul]
    rw [if_neg (by simp [hvs]), fill_all _ _ (by simp [hvs])]
  simp [Instr.buildSlice, run_underlying ht, sizeOf, typeInfo, zeroValue, hi, hz, hs, hs0, hs1, hf, newRow]
theorem wp_buildSlice_one {P : Program} {o : Oper} {a : Act} {w : World} {K : Act → World → Prop} {Q : Exit → Act → World → Prop} (t : TypeId) (x : Operand) (ho : o.op = .buildSlice t 1 #[(0, x)]) (e : TypeId) (i : TypeInfo) (z : Value) (s : Nat) (ht : P.underlying t = some (.slice e)) (hi : P.info? e = some i) (hz : i.zero = some z) (hs : i.size = s) (h0 : 0 < s) (h24 : s ≤ 16777216) (vs : Array Value) (hvs : vs.size = s) (hx : a.eval x = .agg vs)
    (h : K (a.put o.dst (.slice (some ⟨w.heap.size, 0, none⟩) 1 1)) (w.alloc (.cells vs e))) : o.wp P a w K Q := by
  have hrun := run_buildSlice_one (P := P) w t e i z s ht hi hz hs h0 h24 vs hvs
  unfold Oper.wp
  simp [execOp, ho, hx, hrun, Result.andThen]
  exact h
theorem wp_buildSlice_oneW {P : Program} {o : Oper} {a : Act} {w : World} {K : Act → World → Prop} {Q : Exit → Act → World → Prop} (t : TypeId) (x : Operand) (ho : o.op = .buildSlice t 1 #[(0, x)]) (e : TypeId) (i : TypeInfo) (z : Value) (s : Nat) (ht : P.underlying t = some (.slice e)) (hi : P.info? e = some i) (hz : i.zero = some z) (hs : i.size = s) (h0 : 0 < s) (h24 : s ≤ 16777216) (vs : Array Value) (hvs : vs.size = s) (hx : a.eval x = .agg vs)
    (h : ∀ w', w' = w.alloc (.cells vs e) → K (a.put o.dst (.slice (some ⟨w.heap.size, 0, none⟩) 1 1)) w') : o.wp P a w K Q :=
  wp_buildSlice_one t x ho e i z s ht hi hz hs h0 h24 vs hvs hx (h _ rfl)
theorem run_buildSlice_none {P : Program} (w : World) (t e : TypeId) (i : TypeInfo) (ht : P.underlying t = some (.slice e)) (hi : P.info? e = some i) :
    (Instr.buildSlice t 0 #[]).run P w = .ok (.slice (some ⟨w.heap.size, 0, none⟩) 0 0) (w.alloc (.cells #[] e)) := by
  have hr : (Array.range 0).map (fun _ => (default : Value)) = #[] := by apply Array.eq_empty_of_size_eq_zero; simp
  simp [Instr.buildSlice, Instr.fill, run_underlying ht, sizeOf, typeInfo, hi, newRow, hr]
  try rfl
theorem wp_buildSlice_none {P : Program} {o : Oper} {a : Act} {w : World} {K : Act → World → Prop} {Q : Exit → Act → World → Prop} (t : TypeId) (ho : o.op = .buildSlice t 0 #[]) (e : TypeId) (i : TypeInfo) (ht : P.underlying t = some (.slice e)) (hi : P.info? e = some i)
    (h : ∀ w', w' = w.alloc (.cells #[] e) → K (a.put o.dst (.slice (some ⟨w.heap.size, 0, none⟩) 0 0)) w') : o.wp P a w K Q := by
  have hrun := run_buildSlice_none (P := P) w t e i ht hi
  unfold Oper.wp
  simp [execOp, ho, hrun, Result.andThen]
  exact h _ rfl
theorem wp_world {P : Program} {c : Code} {Q : Exit → Act → World → Prop} {a : Act} {w : World} (h : ∀ wd, wd = w → Code.wp P c Q a wd) : Code.wp P c Q a w := h w rfl
theorem shL_take {F : Nat → Nat → Int} {n a : Nat} (ha : a ≤ n) {j : Nat} {u : Value} (h : (shL F a)[j]? = some u) : (shL F n)[j]? = some u := by
  obtain ⟨hj, rfl⟩ := shL_get h
  have e := shL_at (F := F) (n := n) (k := j / 266) (j := j % 266) (by omega) (by omega)
  rwa [show j / 266 * 266 + j % 266 = j by omega] at e
theorem ins_cat {F : Nat → Nat → Int} {n a : Nat} {d : Nat → Int} (ha : a ≤ n) : ∀ k, k < n + 1 → ∀ j, j < 266 → (shL F a ++ (kc sk 266 d).toList ++ (shL F n).drop (a * 266))[k * 266 + j]? = some (shV (insF F a d) k j) := fun k hk j hj => by
  have hl : (shL F a ++ (kc sk 266 d).toList).length = (a + 1) * 266 := by rw [List.length_append, shL_len, Array.length_toList, kc_size]; omega
  rw [List.getElem?_append, hl]
  by_cases h : k < a + 1
  · rw [if_pos (by omega), ins_end k h j hj]
  · rw [if_neg (by omega), List.getElem?_drop, show a * 266 + (k * 266 + j - (a + 1) * 266) = (k - 1) * 266 + j by omega, shL_at (by omega) hj]
    unfold shV insF
    rw [if_neg (by omega), if_neg (by omega)]
end Go.Proofs.YtejnejplofddnaaGreatDoor
/- Slices of sheets: copied, sized and compared by the statements; compared by the program and the reference. -/
namespace Go.Proofs.YtejnejplofddnaaGreatDoor
open Go.RowKit
set_option linter.unusedVariables false
set_option linter.unusedSimpArgs false
set_option maxRecDepth 100000
/-- Sheets alike, place by place. -/
def SameTo (F G : Nat → Nat → Int) (k : Nat) : Prop := ∀ i, i < k → eqRow 266 (F i) (G i) = true
open Classical in
noncomputable def sameSt (n m : Nat) (F G : Nat → Nat → Int) : Bool := decide (n = m) && decide (SameTo F G n)
open Classical in
theorem sameSt_len {n m : Nat} {F G : Nat → Nat → Int} (h : ¬ n = m) : sameSt n m F G = false := by unfold sameSt; rw [decide_eq_false h]; rfl
open Classical in
theorem sameSt_no {n k : Nat} {F G : Nat → Nat → Int} (hk : k < n) (h : eqRow 266 (F k) (G k) = false) : sameSt n n F G = false := by
  unfold sameSt
  rw [decide_eq_false (p := SameTo F G n) (fun g => by have := g k hk; rw [h] at this; cases this), Bool.and_false]
open Classical in
theorem sameSt_yes {n : Nat} {F G : Nat → Nat → Int} (h : SameTo F G n) : sameSt n n F G = true := by
  unfold sameSt
  rw [decide_eq_true h, decide_eq_true rfl]; rfl
theorem same_next {k : Nat} {F G : Nat → Nat → Int} (h : SameTo F G k) (g : eqRow 266 (F k) (G k) = true) : SameTo F G (k + 1) := fun i h1 => by
  rcases Nat.lt_succ_iff_lt_or_eq.1 h1 with h2 | rfl
  · exact h i h2
  · exact g
end Go.Proofs.YtejnejplofddnaaGreatDoor
/- A stack cloned, and one sheet put in: the library's functions. -/
namespace Go.Proofs.YtejnejplofddnaaGreatDoor
open Go.RowKit
set_option linter.unusedVariables false
set_option linter.unusedSimpArgs false
set_option maxRecDepth 100000
theorem owns_cellsV {w : World} {base g cap n s : Nat} {e : TypeId} {xs : List Value} (h : w.ownsRow base e s (.slice (some ⟨g, 0, none⟩) n cap) n xs) : base ≤ g ∧ g < w.heap.size ∧ n ≤ cap ∧ cap ≤ maxLen ∧ (rowOf w g).size = cap * s ∧ frOf w g = (0, 0) ∧ w.heap[g]? = some (.cells (rowOf w g) e (0, 0)) ∧ ∀ j, j < n * s → (rowOf w g)[j]? = xs[j]? := by
  obtain ⟨hl, ⟨h0, -⟩ | ⟨g', cap', cur, hv, hb, hg, h1, h2, h3, ht⟩⟩ := h
  · cases h0
  · simp only [Value.slice.injEq, Option.some.injEq, Addr.mk.injEq] at hv
    obtain ⟨⟨rfl, -, -⟩, -, rfl⟩ := hv
    have hrow : rowOf w g = cur := by simp [rowOf, hg, objRow]
    refine ⟨hb, (Array.getElem?_eq_some_iff.1 hg).1, h1, h2, by rw [hrow]; exact h3, by simp [frOf, hg, objFr], by rw [hrow]; exact hg, fun j hj => ?_⟩
    rw [hrow, ← ht, List.getElem?_take, if_pos hj, Array.getElem?_toList]
end Go.Proofs.YtejnejplofddnaaGreatDoor
/- The places of a list, each once: the program's set; how long it is. -/
namespace Go.Proofs.YtejnejplofddnaaGreatDoor
open Go.RowKit
set_option linter.unusedVariables false
set_option linter.unusedSimpArgs false
set_option maxRecDepth 100000
/-- Two neighbours are one place. -/
def AdjE (f : Nat → Int) (k : Nat) : Prop := f (k * 2) = f (k * 2 + 2) ∧ f (k * 2 + 1) = f (k * 2 + 3)
def NoAdj (f : Nat → Int) (n : Nat) : Prop := ∀ k, k + 1 < n → ¬ AdjE f k
def Dis (f : Nat → Int) (n : Nat) : Prop := ∀ i j, i < j → j < n → ¬ (f (i * 2) = f (j * 2) ∧ f (i * 2 + 1) = f (j * 2 + 1))
theorem ltS_anti {a b : Int × Int} (h1 : ltOf cpS a b = false) (h2 : ltOf cpS b a = false) : a = b := by
  rw [ltS] at h1 h2
  have h1 := of_decide_eq_false h1
  have h2 := of_decide_eq_false h2
  obtain ⟨a1, a2⟩ := a
  obtain ⟨b1, b2⟩ := b
  simp only at h1 h2
  have e2 : a2 = b2 := by omega
  subst e2
  have e1 : a1 = b1 := by omega
  rw [e1]
theorem unp_even (d : Array (Int × Int)) (i : Nat) : unp d (i * 2) = d[i]!.1 ∧ unp d (i * 2 + 1) = d[i]!.2 := by
  unfold unp
  constructor
  · rw [if_pos (by omega), show i * 2 / 2 = i by omega]
  · rw [if_neg (by omega), show (i * 2 + 1) / 2 = i by omega]
theorem nodup_at {d : Array (Int × Int)} : d.toList.Nodup ↔ ∀ i j, i < j → j < d.size → d[i]! ≠ d[j]! := by
  unfold List.Nodup
  rw [List.pairwise_iff_getElem]
  constructor
  · intro h i j hij hj
    have := h i j (by simpa using (show i < d.size by omega)) (by simpa using hj) hij
    rw [getElem!_pos d i (by omega), getElem!_pos d j hj]
    simpa using this
  · intro h i j hi hj hij
    have := h i j hij (by simpa using hj)
    rw [getElem!_pos d i (by simpa using hi), getElem!_pos d j (by simpa using hj)] at this
    simpa using this
theorem sorted_dis {f : Nat → Int} {n : Nat} {d : Array (Int × Int)} (hp : Sort.PermIn 0 n (prs f n) d) (hs : Sort.SortedIn (ltOf cpS) 0 n d) : NoAdj (unp d) n ↔ Dis f n := by
  have hd : d.size = n := hp.1.trans (prs_size f n)
  have hpm := hp.2.2
  have e1 : d.extract 0 n = d := by rw [← hd]; simp
  have e2 : (prs f n).extract 0 n = prs f n := by
    have := prs_size f n
    calc (prs f n).extract 0 n = (prs f n).extract 0 (prs f n).size := by rw [this]
      _ = prs f n := by simp
  rw [e1, e2] at hpm
  have hN : d.toList.Nodup ↔ (prs f n).toList.Nodup := hpm.nodup_iff
  rw [nodup_at, nodup_at, hd, prs_size] at hN
  have h3 : (∀ i j, i < j → j < n → (prs f n)[i]! ≠ (prs f n)[j]!) ↔ Dis f n := by
    constructor
    · intro h i j hij hj g
      refine h i j hij hj ?_
      rw [prs_at f (by omega), prs_at f hj, g.1, g.2]
    · intro h i j hij hj g
      rw [prs_at f (by omega), prs_at f hj] at g
      simp only [Prod.mk.injEq] at g
      exact h i j hij hj g
  rw [← h3, ← hN]
  constructor
  · intro h i j hij hj e
    refine h i (by omega) ?_
    have q : d[i]! = d[i + 1]! := by
      refine ltS_anti ?_ (hs i (i + 1) (by omega) (by omega) (by omega))
      rcases Nat.eq_or_lt_of_le (show i + 1 ≤ j by omega) with h1 | h1
      · rw [h1, ← e]; exact swoS.irrefl _
      · rw [e]; exact hs (i + 1) j (by omega) h1 hj
    unfold AdjE
    rw [show i * 2 + 2 = (i + 1) * 2 by omega, show i * 2 + 3 = (i + 1) * 2 + 1 by omega, (unp_even d i).1, (unp_even d i).2, (unp_even d (i + 1)).1, (unp_even d (i + 1)).2, q]
    exact ⟨rfl, rfl⟩
  · intro h k hk g
    refine h k (k + 1) (by omega) hk ?_
    unfold AdjE at g
    rw [show k * 2 + 2 = (k + 1) * 2 by omega, show k * 2 + 3 = (k + 1) * 2 + 1 by omega, (unp_even d k).1, (unp_even d k).2, (unp_even d (k + 1)).1, (unp_even d (k + 1)).2] at g
    exact Prod.ext g.1 g.2
set_option maxHeartbeats 8000000 in
theorem compact_spots (g n cap : Nat) (f : Nat → Int) (hn : n ≤ 1048576) (hcap : n ≤ cap) (hcap2 : cap ≤ 9223372036854775807) (w : World) (hr : ∀ j, j < n * 2 → (rowOf w g)[j]? = some (.int .i8 (f j))) (hfr : frOf w g = (0, 0)) (hg : g < w.heap.size) :
    Calls Tryz.prog 108 #[.slice (some ⟨g, 0, none⟩) n cap] w fun e w' => ∃ m, e = .returned (.slice (some ⟨g, 0, none⟩) m cap) ∧ m ≤ n ∧ (m = n ↔ NoAdj f n) ∧ Below g w w' := by
  have HR := Lib.hid hr
  clear hr
  by_cases h2 : n < 2
  · have HM := Lib.hid (show n = n ↔ NoAdj f n from ⟨fun _ k hk => absurd hk (by omega), fun _ => rfl⟩)
    have h2i : (n : Int) < 2 := by omega
    clear h2
    go_enter Tryz.func108, Tryz.ntmps108
    go_wp2
    go_ret
    exact ⟨n, rfl, Nat.le_refl _, by simpa using HM.out, by repeat' (first | with_reducible exact Below.refl _ _ | with_reducible assumption | with_reducible refine Below.drew ?_ | with_reducible refine Below.drewN ?_ _ | with_reducible refine Below.alloc ?_ ?_ _ | with_reducible refine Below.setCell ?_ ?_ _ | with_reducible refine Below.setRow ?_ ?_ _ | with_reducible refine below_step (by assumption) ?_ ?_ | (show (_ : Nat) ≤ _; first | omega | (simp <;> omega)))⟩
  have h2i : ¬ (n : Int) < 2 := by omega
  go_enter Tryz.func108, Tryz.ntmps108
  go_wp2
  go_loopw [3] (fun i wr => ∃ k : Nat, 1 ≤ k ∧ k ≤ n ∧ i = .int .i64 k ∧ Below w.heap.size w wr ∧ NoAdj f k) (fun i wr => n - (intOf i).toNat)
  case atStart => exact ⟨1, by omega, by omega, rfl, by repeat' (first | with_reducible exact Below.refl _ _ | with_reducible assumption | with_reducible refine Below.drew ?_ | with_reducible refine Below.drewN ?_ _ | with_reducible refine Below.alloc ?_ ?_ _ | with_reducible refine Below.setCell ?_ ?_ _ | with_reducible refine Below.setRow ?_ ?_ _ | with_reducible refine below_step (by assumption) ?_ ?_ | (show (_ : Nat) ≤ _; first | omega | (simp <;> omega))), fun k hk => absurd hk (by omega)⟩
  case round =>
    obtain ⟨k, hk1, hk, rfl, hb, hna⟩ := hrel
    have HNA := Lib.hid hna
    have hszw := hb.size
    have hrow := keep_row hb hg
    have hfrw := (keep_fr hb hg).trans hfr
    have hgw : g < wr.heap.size := Nat.lt_of_lt_of_le hg hszw
    clear hna
    by_cases hlt : k < n
    · obtain ⟨q, rfl⟩ : ∃ q, k = q + 1 := ⟨k - 1, by omega⟩
      have e1 := HR.out ((q + 1) * 2) (by omega)
      have e2 := HR.out ((q + 1) * 2 + 1) (by omega)
      have e3 := HR.out (q * 2) (by omega)
      have e4 := HR.out (q * 2 + 1) (by omega)
      rw [← hrow] at e1 e2 e3 e4
      have hkm : IntKind.i64.wrap (((q + 1 : Nat) : Int) - 1) = (q : Int) := by rw [IntWalk.i64_in _ (by omega)]; omega
      have hkm2 : IntKind.i64.wrap ((q : Int) + 1 - 1) = (q : Int) := by rw [IntWalk.i64_in _ (by omega)]; omega
      have hlt2 : ((q + 1 : Nat) : Int) < (n : Int) := by omega
      have hlt3 : (q : Int) < (n : Int) := by omega
      have hA : AdjE f q ↔ f (q * 2) = f ((q + 1) * 2) ∧ f (q * 2 + 1) = f ((q + 1) * 2 + 1) := by
        unfold AdjE
        rw [show (q + 1) * 2 = q * 2 + 2 by omega]
      have HNX := Lib.hid (fun (h : ¬ AdjE f q) => show NoAdj f (q + 1 + 1) from fun j hj => by
        rcases Nat.lt_or_ge j q with h1 | h1
        · exact HNA.out j (by omega)
        · obtain rfl : j = q := by omega
          exact h)
      have HNO := Lib.hid (fun (h : AdjE f q) (m : Nat) (hm : m < n) => show m = n ↔ NoAdj f n from ⟨fun e => by omega, fun g => absurd h (g q (by omega))⟩)
      rw [hA] at HNX HNO
      clear hA hrow
      generalize f ((q + 1) * 2) = a1 at *
      generalize f ((q + 1) * 2 + 1) = a2 at *
      generalize f (q * 2) = b1 at *
      generalize f (q * 2 + 1) = b2 at *
      by_cases ha : b1 = a1 ∧ b2 = a2
      · obtain ⟨rfl, rfl⟩ := ha
        have HNO2 := Lib.hid (HNO.out ⟨rfl, rfl⟩)
        obtain ⟨z, hz1, hz2, hz3⟩ := spot_zero
        have HZ := Lib.hid (And.intro hz1 (And.intro hz2 hz3))
        have hcq : ¬ cap = q + 1 := by omega
        have hcq2 : ((q + 1 : Nat) : Int) ≤ (n : Int) := by omega
        clear hz1 hz2 hz3 HNX HNO
        obtain ⟨L, hL⟩ : ∃ L, n - (q + 1) = L := ⟨_, rfl⟩
        have hR0 : n * 2 ≤ (rowOf w g).size := by
          have := (Array.getElem?_eq_some_iff.1 (HR.out (n * 2 - 1) (by omega))).1
          omega
        go_wp2
        go_quiet (fail)
        go_wp2
        go_loopw [5, 3] (fun i s wr => ∃ (k2 kk : Nat) (d : Array Value) (h : Nat → Int), 1 ≤ k2 ∧ k2 ≤ L ∧ q + 1 ≤ kk ∧ kk ≤ q + k2 ∧ i = .int .i64 k2 ∧ s = .int .i64 kk ∧ Below g w wr ∧ frOf wr g = (0, 0) ∧ rowOf wr g = d ∧ n * 2 ≤ d.size ∧ ∀ j, j < n * 2 → d[j]? = some (.int .i8 (h j))) (fun i s wr => L + 1 - (intOf i).toNat)
        case atStart => exact ⟨1, q + 1, rowOf w g, f, by omega, by omega, by omega, by omega, rfl, by first | rfl | simp, below_le (B := w.heap.size) (by repeat' (first | with_reducible exact Below.refl _ _ | with_reducible assumption | with_reducible refine Below.drew ?_ | with_reducible refine Below.drewN ?_ _ | with_reducible refine Below.alloc ?_ ?_ _ | with_reducible refine Below.setCell ?_ ?_ _ | with_reducible refine Below.setRow ?_ ?_ _ | with_reducible refine below_step (by assumption) ?_ ?_ | (show (_ : Nat) ≤ _; first | omega | (simp <;> omega)))) (by omega), by (go_simp <;> (intros; omega)), by have hrr := keep_row hb hg; (go_simp <;> (intros; omega)), hR0, HR.out⟩
        case round =>
          clear hb hszw hfrw hgw e1 e2 e3 e4
          obtain ⟨k2, kk, d, h, h21, h2L, hkq, hkk, rfl, rfl, hb, hfr2, hrd, hds, hd⟩ := hrel
          have HD := Lib.hid hd
          have hszw := hb.size
          have hgw : g < wr.heap.size := Nat.lt_of_lt_of_le hg hszw
          clear hd
          by_cases hlt : k2 < L
          · obtain ⟨p, rfl⟩ : ∃ p, k2 = p + 1 := ⟨k2 - 1, by omega⟩
            have e1 := HD.out ((q + 1) * 2 + (p + 1) * 2) (by omega)
            have e2 := HD.out ((q + 1) * 2 + (p + 1) * 2 + 1) (by omega)
            have e3 := HD.out ((q + 1) * 2 + p * 2) (by omega)
            have e4 := HD.out ((q + 1) * 2 + p * 2 + 1) (by omega)
            have hpm : IntKind.i64.wrap (((p + 1 : Nat) : Int) - 1) = (p : Int) := by rw [IntWalk.i64_in _ (by omega)]; omega
            have hpm2 : IntKind.i64.wrap ((p : Int) + 1 - 1) = (p : Int) := by rw [IntWalk.i64_in _ (by omega)]; omega
            have hltL : ((p + 1 : Nat) : Int) < (L : Int) := by omega
            have hltL2 : (p : Int) < (L : Int) := by omega
            have hkn : (kk : Int) < (n : Int) := by omega
            have hkn2 : kk < n := by omega
            have hds1 : kk * 2 + 2 ≤ d.size := by omega
            have HUP := Lib.hid (show ∀ j, j < n * 2 → ((d.setIfInBounds (kk * 2) (.int .i8 (h ((q + 1) * 2 + (p + 1) * 2)))).setIfInBounds (kk * 2 + 1) (.int .i8 (h ((q + 1) * 2 + (p + 1) * 2 + 1))))[j]? = some (.int .i8 (upI (upI h (kk * 2) (h ((q + 1) * 2 + (p + 1) * 2))) (kk * 2 + 1) (h ((q + 1) * 2 + (p + 1) * 2 + 1)) j)) from fun j hj => by
              by_cases j1 : j = kk * 2 + 1
              · subst j1
                rw [Array.getElem?_setIfInBounds_self_of_lt (by rw [Array.size_setIfInBounds]; omega)]
                unfold upI
                rw [if_pos rfl]
              · rw [Array.getElem?_setIfInBounds_ne (by omega)]
                by_cases j0 : j = kk * 2
                · subst j0
                  rw [Array.getElem?_setIfInBounds_self_of_lt (by omega)]
                  unfold upI
                  rw [if_neg (by omega), if_pos rfl]
                · rw [Array.getElem?_setIfInBounds_ne (by omega), HD.out j hj]
                  unfold upI
                  rw [if_neg j1, if_neg j0])
            obtain ⟨u0, hdk⟩ : ∃ u0, d[kk * 2]? = some u0 := ⟨_, Array.getElem?_eq_getElem (by omega)⟩
            obtain ⟨u1, hdk1⟩ : ∃ u1, d[kk * 2 + 1]? = some u1 := ⟨_, Array.getElem?_eq_getElem (by omega)⟩
            generalize h ((q + 1) * 2 + (p + 1) * 2) = a1 at *
            generalize h ((q + 1) * 2 + (p + 1) * 2 + 1) = a2 at *
            generalize h ((q + 1) * 2 + p * 2) = c1 at *
            generalize h ((q + 1) * 2 + p * 2 + 1) = c2 at *
            by_cases h1 : a1 = c1
            · by_cases h2 : a2 = c2
              · subst h1
                subst h2
                go_wp2
                go_quiet (fail)
                go_wp2
                go_roundw
                case rel => first | exact ⟨p + 1 + 1, kk, d, h, by omega, by omega, by omega, by omega, by go_num, rfl, by repeat' (first | with_reducible exact Below.refl _ _ | with_reducible assumption | with_reducible refine Below.drew ?_ | with_reducible refine Below.drewN ?_ _ | with_reducible refine Below.alloc ?_ ?_ _ | with_reducible refine Below.setCell ?_ ?_ _ | with_reducible refine Below.setRow ?_ ?_ _ | with_reducible refine below_step (by assumption) ?_ ?_ | (show (_ : Nat) ≤ _; first | omega | (simp <;> omega))), by (go_simp <;> (intros; omega)), by (go_simp <;> (intros; omega)), hds, HD.out⟩ | ((repeat (with_reducible apply Exists.intro)); refine And.intro ?_ ?_; rotate_left; (focus ((repeat' (with_reducible apply And.intro)) <;> rfl)); exact ⟨p + 1 + 1, kk, d, h, by omega, by omega, by omega, by omega, by go_num, rfl, by repeat' (first | with_reducible exact Below.refl _ _ | with_reducible assumption | with_reducible refine Below.drew ?_ | with_reducible refine Below.drewN ?_ _ | with_reducible refine Below.alloc ?_ ?_ _ | with_reducible refine Below.setCell ?_ ?_ _ | with_reducible refine Below.setRow ?_ ?_ _ | with_reducible refine below_step (by assumption) ?_ ?_ | (show (_ : Nat) ≤ _; first | omega | (simp <;> omega))), by (go_simp <;> (intros; omega)), by (go_simp <;> (intros; omega)), hds, HD.out⟩)
                case measure => simp [intOf] <;> omega
              · subst h1
                have h2b : (a2 == c2) = false := by simpa using h2
                go_wp2
                go_quiet (fail)
                go_wp2
                go_roundw
                case rel => first | exact ⟨p + 1 + 1, kk + 1, (d.setIfInBounds (kk * 2) (.int .i8 a1)).setIfInBounds (kk * 2 + 1) (.int .i8 a2), upI (upI h (kk * 2) a1) (kk * 2 + 1) a2, by omega, by omega, by omega, by omega, by go_num, by go_num, by repeat' (first | with_reducible exact Below.refl _ _ | with_reducible assumption | with_reducible refine Below.drew ?_ | with_reducible refine Below.drewN ?_ _ | with_reducible refine Below.alloc ?_ ?_ _ | with_reducible refine Below.setCell ?_ ?_ _ | with_reducible refine Below.setRow ?_ ?_ _ | with_reducible refine below_step (by assumption) ?_ ?_ | (show (_ : Nat) ≤ _; first | omega | (simp <;> omega))), by (go_simp <;> (intros; omega)), by (go_simp <;> (intros; omega)), by simpa using hds, HUP.out⟩ | ((repeat (with_reducible apply Exists.intro)); refine And.intro ?_ ?_; rotate_left; (focus ((repeat' (with_reducible apply And.intro)) <;> rfl)); exact ⟨p + 1 + 1, kk + 1, (d.setIfInBounds (kk * 2) (.int .i8 a1)).setIfInBounds (kk * 2 + 1) (.int .i8 a2), upI (upI h (kk * 2) a1) (kk * 2 + 1) a2, by omega, by omega, by omega, by omega, by go_num, by go_num, by repeat' (first | with_reducible exact Below.refl _ _ | with_reducible assumption | with_reducible refine Below.drew ?_ | with_reducible refine Below.drewN ?_ _ | with_reducible refine Below.alloc ?_ ?_ _ | with_reducible refine Below.setCell ?_ ?_ _ | with_reducible refine Below.setRow ?_ ?_ _ | with_reducible refine below_step (by assumption) ?_ ?_ | (show (_ : Nat) ≤ _; first | omega | (simp <;> omega))), by (go_simp <;> (intros; omega)), by (go_simp <;> (intros; omega)), by simpa using hds, HUP.out⟩)
                case measure => simp [intOf] <;> omega
            · have h1b : (a1 == c1) = false := by simpa using h1
              go_wp2
              go_quiet (fail)
              go_wp2
              go_roundw
              case rel => first | exact ⟨p + 1 + 1, kk + 1, (d.setIfInBounds (kk * 2) (.int .i8 a1)).setIfInBounds (kk * 2 + 1) (.int .i8 a2), upI (upI h (kk * 2) a1) (kk * 2 + 1) a2, by omega, by omega, by omega, by omega, by go_num, by go_num, by repeat' (first | with_reducible exact Below.refl _ _ | with_reducible assumption | with_reducible refine Below.drew ?_ | with_reducible refine Below.drewN ?_ _ | with_reducible refine Below.alloc ?_ ?_ _ | with_reducible refine Below.setCell ?_ ?_ _ | with_reducible refine Below.setRow ?_ ?_ _ | with_reducible refine below_step (by assumption) ?_ ?_ | (show (_ : Nat) ≤ _; first | omega | (simp <;> omega))), by (go_simp <;> (intros; omega)), by (go_simp <;> (intros; omega)), by simpa using hds, HUP.out⟩ | ((repeat (with_reducible apply Exists.intro)); refine And.intro ?_ ?_; rotate_left; (focus ((repeat' (with_reducible apply And.intro)) <;> rfl)); exact ⟨p + 1 + 1, kk + 1, (d.setIfInBounds (kk * 2) (.int .i8 a1)).setIfInBounds (kk * 2 + 1) (.int .i8 a2), upI (upI h (kk * 2) a1) (kk * 2 + 1) a2, by omega, by omega, by omega, by omega, by go_num, by go_num, by repeat' (first | with_reducible exact Below.refl _ _ | with_reducible assumption | with_reducible refine Below.drew ?_ | with_reducible refine Below.drewN ?_ _ | with_reducible refine Below.alloc ?_ ?_ _ | with_reducible refine Below.setCell ?_ ?_ _ | with_reducible refine Below.setRow ?_ ?_ _ | with_reducible refine below_step (by assumption) ?_ ?_ | (show (_ : Nat) ≤ _; first | omega | (simp <;> omega))), by (go_simp <;> (intros; omega)), by (go_simp <;> (intros; omega)), by simpa using hds, HUP.out⟩)
              case measure => simp [intOf] <;> omega
          · have hke : k2 = L := by omega
            subst hke
            have hkn : kk < n := by omega
            have hkn2 : (kk : Int) < (n : Int) := by omega
            have hkn3 : (kk : Int) ≤ (n : Int) := by omega
            have hkn4 : ¬ cap = kk := by omega
            have hkn5 : kk ≤ cap := by omega
            have hkn6 : (kk : Int) ≤ (cap : Int) := by omega
            have hcl2 : ∀ ty, (Builtin.clear_ #[49] ty #[.slice (some ⟨g, kk * 2, none⟩) (n - kk) (cap - kk)]).run Tryz.prog wr = .ok (.tuple #[]) (wr.setRow g (splice (rowOf wr g) (kk * 2) (Builtin.zeroCells z.cells (n - kk)))) :=
              fun ty => run_clear_wide wr _ _ ty z 2 Tryz.underlying49 HZ.out.1 HZ.out.2.1 HZ.out.2.2 g _ _ _ (by omega) (by rw [hrd]; omega) hfr2
            generalize splice (rowOf wr g) (kk * 2) (Builtin.zeroCells z.cells (n - kk)) = zc at hcl2
            have HM := Lib.hid (HNO2.out kk hkn)
            go_wp2
            go_ret
            exact ⟨kk, rfl, by omega, HM.out, by repeat' (first | with_reducible exact Below.refl _ _ | with_reducible assumption | with_reducible refine Below.drew ?_ | with_reducible refine Below.drewN ?_ _ | with_reducible refine Below.alloc ?_ ?_ _ | with_reducible refine Below.setCell ?_ ?_ _ | with_reducible refine Below.setRow ?_ ?_ _ | with_reducible refine below_step (by assumption) ?_ ?_ | (show (_ : Nat) ≤ _; first | omega | (simp <;> omega)))⟩
      · have HN := Lib.hid (HNX.out ha)
        by_cases h1 : a1 = b1
        · subst h1
          have h2 : ¬ a2 = b2 := fun e => ha ⟨rfl, e.symm⟩
          have h2b : (a2 == b2) = false := by simpa using h2
          clear ha
          go_wp2
          go_quiet (fail)
          go_wp2
          go_roundw
          case rel => first | exact ⟨q + 1 + 1, by omega, by omega, by go_num, by repeat' (first | with_reducible exact Below.refl _ _ | with_reducible assumption | with_reducible refine Below.drew ?_ | with_reducible refine Below.drewN ?_ _ | with_reducible refine Below.alloc ?_ ?_ _ | with_reducible refine Below.setCell ?_ ?_ _ | with_reducible refine Below.setRow ?_ ?_ _ | with_reducible refine below_step (by assumption) ?_ ?_ | (show (_ : Nat) ≤ _; first | omega | (simp <;> omega))), HN.out⟩ | ((repeat (with_reducible apply Exists.intro)); refine And.intro ?_ ?_; rotate_left; (focus ((repeat' (with_reducible apply And.intro)) <;> rfl)); exact ⟨q + 1 + 1, by omega, by omega, by go_num, by repeat' (first | with_reducible exact Below.refl _ _ | with_reducible assumption | with_reducible refine Below.drew ?_ | with_reducible refine Below.drewN ?_ _ | with_reducible refine Below.alloc ?_ ?_ _ | with_reducible refine Below.setCell ?_ ?_ _ | with_reducible refine Below.setRow ?_ ?_ _ | with_reducible refine below_step (by assumption) ?_ ?_ | (show (_ : Nat) ≤ _; first | omega | (simp <;> omega))), HN.out⟩)
          case measure => simp [intOf] <;> omega
        · have h2b : (a1 == b1) = false := by simpa using h1
          clear ha
          go_wp2
          go_quiet (fail)
          go_wp2
          go_roundw
          case rel => first | exact ⟨q + 1 + 1, by omega, by omega, by go_num, by repeat' (first | with_reducible exact Below.refl _ _ | with_reducible assumption | with_reducible refine Below.drew ?_ | with_reducible refine Below.drewN ?_ _ | with_reducible refine Below.alloc ?_ ?_ _ | with_reducible refine Below.setCell ?_ ?_ _ | with_reducible refine Below.setRow ?_ ?_ _ | with_reducible refine below_step (by assumption) ?_ ?_ | (show (_ : Nat) ≤ _; first | omega | (simp <;> omega))), HN.out⟩ | ((repeat (with_reducible apply Exists.intro)); refine And.intro ?_ ?_; rotate_left; (focus ((repeat' (with_reducible apply And.intro)) <;> rfl)); exact ⟨q + 1 + 1, by omega, by omega, by go_num, by repeat' (first | with_reducible exact Below.refl _ _ | with_reducible assumption | with_reducible refine Below.drew ?_ | with_reducible refine Below.drewN ?_ _ | with_reducible refine Below.alloc ?_ ?_ _ | with_reducible refine Below.setCell ?_ ?_ _ | with_reducible refine Below.setRow ?_ ?_ _ | with_reducible refine below_step (by assumption) ?_ ?_ | (show (_ : Nat) ≤ _; first | omega | (simp <;> omega))), HN.out⟩)
          case measure => simp [intOf] <;> omega
    · have hke : k = n := by omega
      subst hke
      have HM := Lib.hid (show k = k ↔ NoAdj f k from ⟨fun _ => HNA.out, fun _ => rfl⟩)
      clear hrow
      go_wp2
      go_ret
      exact ⟨k, rfl, Nat.le_refl _, by simpa using HM.out, below_le (by repeat' (first | with_reducible exact Below.refl _ _ | with_reducible assumption | with_reducible refine Below.drew ?_ | with_reducible refine Below.drewN ?_ _ | with_reducible refine Below.alloc ?_ ?_ _ | with_reducible refine Below.setCell ?_ ?_ _ | with_reducible refine Below.setRow ?_ ?_ _ | with_reducible refine below_step (by assumption) ?_ ?_ | (show (_ : Nat) ≤ _; first | omega | (simp <;> omega)))) (by omega)⟩
theorem owns_sliceS {w : World} {base : Nat} {e : TypeId} {s : Nat} {v : Value} {n : Nat} {xs : List Value} (h : w.ownsRow base e s v n xs) (hn : 0 < n) : ∃ g cap, v = .slice (some ⟨g, 0, none⟩) n cap := by
  rcases h.2 with ⟨-, h0⟩ | ⟨g, cap, cur, h1, -⟩
  · omega
  · exact ⟨g, cap, h1⟩
set_option maxHeartbeats 2000000 in
theorem clone_spotsO (v : Value) (n b : Nat) (f : Nat → Int) (hn : n ≤ 1048576) (w : World) (h : OwnK .i8 2 w b v n f) :
    Calls Tryz.prog 105 #[v] w fun e w' => ∃ v', e = .returned v' ∧ w'.ownsRow w.heap.size 59 2 v' n ((List.range (n * 2)).map fun j => .int .i8 (f j)) ∧ Below w.heap.size w w' := by
  obtain ⟨i0, z0, hi0, hz0, hs0, hb0, hc0⟩ := spot_info
  have heq := fun a m c w => Lib.run_eql_slice_nil (P := Tryz.prog) w 49 59 a m c 0 0 Tryz.underlying49
  rcases h with ⟨rfl, rfl⟩ | ⟨g, cap, rfl, hbg, hg, hfr, hsz, hcells⟩
  · go_enter Tryz.func105, Tryz.ntmps105
    go_wp2
    go_ret
    exact ⟨_, rfl, World.ownsRow_nil _ _ _ _, by repeat' (first | with_reducible exact Below.refl _ _ | with_reducible assumption | with_reducible refine Below.drew ?_ | with_reducible refine Below.drewN ?_ _ | with_reducible refine Below.alloc ?_ ?_ _ | with_reducible refine Below.setCell ?_ ?_ _ | with_reducible refine Below.setRow ?_ ?_ _ | with_reducible refine below_step (by assumption) ?_ ?_ | (show (_ : Nat) ≤ _; first | omega | (simp <;> omega)))⟩
  · have HC := Lib.hid hcells
    clear hcells
    go_enter Tryz.func105, Tryz.ntmps105
    go_wp2_with (at_builtin; refine wpList_append_own _ rfl _ _ 49 rfl w.heap.size 59 i0 z0 2 2 Tryz.underlying49 hi0 hz0 hs0 hb0 hc0 (by decide) _ _ _ rfl (owns_empty w _) ⟨g, 0, none⟩ n cap ((List.range (n * 2)).map fun j => .int .i8 (f j)) rfl (by simp) ?c1 ?c2 ?c3 ?c4 ?c5 ?_)
    case c1 =>
      intro j u hj
      have hjn : j < n * 2 := by
        have := (List.getElem?_eq_some_iff.1 hj).1
        simpa using this
      rw [List.getElem?_map, List.getElem?_range hjn] at hj
      simp only [Option.map_some, Option.some.injEq] at hj
      subst hj
      have e := HC.out j hjn
      have : ((⟨g, 0, none⟩ : Addr).add j) = ⟨g, j, none⟩ := by unfold Addr.add; split <;> simp_all
      rw [this, cell_row]
      go_simp
    case c2 => intro u hu; simp at hu; obtain ⟨j, -, rfl⟩ := hu; rfl
    case c3 => unfold maxLen; omega
    case c4 => omega
    case c5 => simp
    intro v' w1 hown' hgrow _
    have hbg : Below w.heap.size w w1 := below_grown (Below.alloc (Below.refl _ _) (Nat.le_refl _) _) hgrow (fun k hk => by simp [Value.ownBlock] at hk; omega) (by simp)
    have HB := Lib.hid hbg
    have HW := Lib.hid hown'
    clear hbg hown' hgrow
    go_wp2
    go_ret
    exact ⟨_, rfl, HW.out, HB.out⟩
set_option maxHeartbeats 4000000 in
theorem set_any (v : Value) (n b : Nat) (f : Nat → Int) (h0 : 1 ≤ n) (hn : n ≤ 1048576) (w : World) (h : OwnK .i8 2 w b v n f) :
    Calls Tryz.prog 62 #[v] w fun e w' => ∃ a m cap, e = .returned (.slice a m cap) ∧ m ≤ n ∧ (m = n ↔ Dis f n) ∧ Below w.heap.size w w' := by
  have HCL := Lib.hid (clone_spotsO v n b f hn w h)
  have HS := Lib.hid (fun g cap w h1 h2 h3 => sort_spots g n cap f hn w h1 h2 h3)
  have HCP := Lib.hid (fun g cap f' h1 h2 w h3 h4 h5 => compact_spots g n cap f' hn h1 h2 w h3 h4 h5)
  clear h
  go_enter Tryz.func62, Tryz.ntmps62
  go_wp2_with (go_at_call 105; refine HCL.out.mono ?_; rintro e w1 ⟨v1, rfl, hown, hb1⟩; obtain ⟨g, cap, rfl⟩ := owns_sliceS hown h0; obtain ⟨hg1, hg2, hg3, hg4, hg5, hg6, -, hg7⟩ := owns_cellsV hown; clear hown)
  have hcap2 : cap ≤ 9223372036854775807 := by unfold maxLen at hg4; omega
  have hrow : ∀ j, j < n * 2 → (rowOf w1 g)[j]? = some (.int .i8 (f j)) := fun j hj => by rw [hg7 j hj, List.getElem?_map, List.getElem?_range hj]; rfl
  have HS1 := Lib.hid (HS.out g cap w1 hrow hg6 hg2)
  clear hrow hg7 hg5
  go_wp2_with (go_at_call 106; refine HS1.out.mono ?_; rintro e w2 ⟨rfl, d', hp, hs, hrow2, hfr2, hsz2, hb2⟩; have HD := Lib.hid (sorted_dis hp hs); have HC2 := Lib.hid (HCP.out g cap (unp d') hg3 hcap2 w2 hrow2 hfr2 (by omega)); have HB2 := Lib.hid hb2; clear hp hs hrow2 hb2)
  go_wp2_with (go_at_call 108; refine HC2.out.mono ?_; rintro e w3 ⟨m, rfl, hm1, hm2, hb3⟩)
  have HM := Lib.hid (And.intro hm1 (hm2.trans HD.out))
  have HB := Lib.hid (show Below w.heap.size w w3 from hb1.trans ((below_le HB2.out hg1).trans (below_le hb3 hg1)))
  clear hm1 hm2
  go_ret
  exact ⟨_, _, _, rfl, HM.out.1, HM.out.2, HB.out⟩
end Go.Proofs.YtejnejplofddnaaGreatDoor
