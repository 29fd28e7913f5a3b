/- The library's sort at places: what it leaves. -/
import Derived.Test.YtkdfkhjoijfcdaaOrderI
namespace Go.Proofs.Ytkdfkhjoijfcdaa
open Go.RowKit Go.Shelf Go.Lib Go.Sort
set_option linter.unusedVariables false
set_option linter.unusedSimpArgs false
set_option maxRecDepth 100000
def prs (f : Nat → Int) (n : Nat) : Array (Int × Int) := (Array.range n).map fun j => (f (j * 2), f (j * 2 + 1))
def unp (d : Array (Int × Int)) (j : Nat) : Int := if j % 2 = 0 then d[j / 2]!.1 else d[j / 2]!.2
theorem prs_size (f : Nat → Int) (n : Nat) : (prs f n).size = n := by simp [prs]
theorem prs_at (f : Nat → Int) {n j : Nat} (hj : j < n) : (prs f n)[j]! = (f (j * 2), f (j * 2 + 1)) := by simp [prs, hj]
theorem flat_at (d : Array (Int × Int)) {t : Nat} (h : t < d.size * 2) : (flatK encS 2 d)[t]! = .int .i8 (unp d t) := by
  rw [get_flatK _ _ _ _ h]
  unfold encS unp
  rcases Nat.mod_two_eq_zero_or_one t with h0 | h1
  · rw [h0]; rfl
  · rw [h1]; rfl
theorem unp_prs (f : Nat → Int) {n t : Nat} (h : t < n * 2) : unp (prs f n) t = f t := by
  unfold unp
  rw [prs_at f (show t / 2 < n by omega)]
  split
  · show f (t / 2 * 2) = f t
    congr 1; omega
  · show f (t / 2 * 2 + 1) = f t
    congr 1; omega
theorem sortW_below (w : World) (g m : Nat) (d : Array (Int × Int)) (os : Array Obj) (hg : g < w.heap.size) : Below g w (sortWorldK encS 2 w g 0 m d os) ∧ frOf (sortWorldK encS 2 w g 0 m d os) g = frOf w g ∧ w.heap.size ≤ (sortWorldK encS 2 w g 0 m d os).heap.size := by
  have hs : w.heap.size ≤ (sortWorldK encS 2 w g 0 m d os).heap.size := size_sortWorldK_c encS 2 w g 0 m d os
  have hk : ∀ k, k < w.heap.size → (sortWorldK encS 2 w g 0 m d os).heap[k]? = (w.heap.modify g (onCells (putCells id 0 (flatK encS 2 d))))[k]? := fun k hk => by
    show ((w.heap.modify g (onCells (putCells id 0 (flatK encS 2 d)))) ++ os)[k]? = _
    rw [Array.getElem?_append_left (by simpa using hk)]
  refine ⟨⟨rfl, rfl, rfl, hs, fun k hk2 => ?_⟩, ?_, hs⟩
  · rw [hk k (by omega), Array.getElem?_modify, if_neg (by omega)]
  · unfold frOf
    rw [hk g hg, Array.getElem?_modify, if_pos rfl]
    cases w.heap[g]? with
    | none => rfl
    | some o => cases o <;> rfl
set_option maxHeartbeats 2000000 in
theorem sort_spots (g n cap : Nat) (f : Nat → Int) (hn : n ≤ 1048576) (w : World) (hr : ∀ j, j < n * 2 → (rowOf w g)[j]? = some (.int .i8 (f j))) (hfr : frOf w g = (0, 0)) (hg : g < w.heap.size) :
    Calls Try.prog 65 #[.slice (some ⟨g, 0, none⟩) n cap, .func (.func 66) #[] #[]] w fun e w' => e = .returned (.tuple #[]) ∧ ∃ d' : Array (Int × Int), PermIn 0 n (prs f n) d' ∧ SortedIn (ltOf cpS) 0 n d' ∧ (∀ j, j < n * 2 → (rowOf w' g)[j]? = some (.int .i8 (unp d' j))) ∧ frOf w' g = (0, 0) ∧ w.heap.size ≤ w'.heap.size ∧ Below g w w' := by
  have eg : ∀ args w, (callFunc 66 args).run Try.prog w = .ok (.enter 66 args) w := enters_of Try.func66 (by kernel_rfl) rfl
  have hcl : ∀ (W : World) (d : Array (Int × Int)), d.size = n → (∀ j, j < n * 2 → (rowOf W g)[j]? = some (.int .i8 (unp d j))) → frOf W g = (0, 0) → HoldsK encS 2 W g 0 d := fun W d hd h1 h2 j hj => by
    rw [size_flatK, hd] at hj
    rw [Nat.zero_add, cell_row, h1 j hj, flat_at d (by rw [hd]; exact hj)]
    exact ⟨rfl, by rw [frozen_row, h2]; simp⟩
  have hH := hcl w (prs f n) (prs_size f n) (fun j hj => by rw [unp_prs f hj]; exact hr j hj) hfr
  have hcmp : CmpLays Try.prog 66 #[] encS 2 cpS g 0 (prs f n).size w := fun m os dk _ x y => inOrder_any x y (sortWorldK encS 2 w g 0 m dk os)
  have hcon := AnyQ.slices_SortFunc Try.sortSpot 2 Try.isAgg75 Try.sizeOf75 encS (fun _ => rfl) (fun x v hv => by simp [encS] at hv; rcases hv with rfl | rfl <;> rfl) cpS swoS 66 #[] g 0 cap (prs f n) w eg hcmp hH hg (by rw [prs_size]; omega)
  rw [prs_size] at hcon
  refine hcon.mono fun e w' ⟨he, d', m, os, hp, hs, hw⟩ => ?_
  have hd : d'.size = n := hp.1.trans (prs_size f n)
  obtain ⟨hb, hf2, hsz⟩ := sortW_below w g m d' os hg
  have hh := holdsK_sortWorldK_c encS 2 w g 0 (prs f n) d' m os hH hg (by rw [hd, prs_size])
  subst hw
  refine ⟨he, d', hp, hs, fun j hj => ?_, hf2.trans hfr, hsz, hb⟩
  have := (hh j (by rw [size_flatK, hd]; exact hj)).1
  rw [Nat.zero_add, cell_row] at this
  rw [this, flat_at d' (by rw [hd]; exact hj)]; rfl
end Go.Proofs.Ytkdfkhjoijfcdaa
