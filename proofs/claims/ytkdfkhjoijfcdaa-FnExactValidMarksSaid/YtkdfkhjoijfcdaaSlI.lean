/- Slices of numbers: the statements' own comparing, marking and looking up. -/
import Derived.Test.YtkdfkhjoijfcdaaBase
import Derived.Test.YtkdfkhjoijfcdaaCells
import Derived.Test.YtkdfkhjoijfcdaaWaterI
import Derived.Lib.Hide
import Derived.RegionTactic
namespace Go.Proofs.Ytkdfkhjoijfcdaa
open Go.RowKit
set_option linter.unusedVariables false
set_option linter.unusedSimpArgs false
set_option maxRecDepth 100000
/-- A slice of n elements of s numbers each, of one kind: the numbers are f's; if it isn't nil its block may be written and lies at base or behind. -/
def OwnK (k : IntKind) (s : Nat) (w : World) (base : Nat) (v : Value) (n : Nat) (f : Nat → Int) : Prop :=
  (v = .slice none 0 0 ∧ n = 0) ∨ ∃ g cap, v = .slice (some ⟨g, 0, none⟩) n cap ∧ base ≤ g ∧ g < w.heap.size ∧ frOf w g = (0, 0) ∧ n * s ≤ (rowOf w g).size ∧ ∀ j, j < n * s → (rowOf w g)[j]? = some (.int k (f j))
section
variable {k : IntKind} {s : Nat} {w w' : World} {base : Nat} {v : Value} {n : Nat} {f f' : Nat → Int}
theorem OwnK.len (h : OwnK k s w base v n f) : ∃ a cap, v = .slice a n cap := by
  rcases h with ⟨rfl, rfl⟩ | ⟨g, cap, rfl, _⟩ <;> exact ⟨_, _, rfl⟩
theorem OwnK.pos (h : OwnK k s w base v n f) (hn : 0 < n) : ∃ g cap, v = .slice (some ⟨g, 0, none⟩) n cap ∧ base ≤ g ∧ g < w.heap.size ∧ frOf w g = (0, 0) ∧ n * s ≤ (rowOf w g).size ∧ ∀ j, j < n * s → (rowOf w g)[j]? = some (.int k (f j)) := by
  rcases h with ⟨rfl, rfl⟩ | h
  · omega
  · exact h
theorem OwnK.of {e : TypeId} {xs : List Value} (h : w.ownsRow base e s v n xs) (hx : ∀ j, j < n * s → xs[j]? = some (.int k (f j))) : OwnK k s w base v n f := by
  obtain ⟨hl, ⟨rfl, rfl⟩ | ⟨g, cap, cur, rfl, hb, hg, h1, h2, h3, ht⟩⟩ := h
  · exact .inl ⟨rfl, rfl⟩
  · have hrow : rowOf w g = cur := by simp [rowOf, hg, objRow]
    refine .inr ⟨g, cap, rfl, hb, (Array.getElem?_eq_some_iff.1 hg).1, by simp [frOf, hg, objFr], by rw [hrow, h3]; exact Nat.mul_le_mul_right _ h1, fun j hj => ?_⟩
    have e := hx j hj
    rw [hrow, ← Array.getElem?_toList]
    rw [← ht, List.getElem?_take, if_pos hj] at e
    exact e
/-- The same for a slice that lies below B, though B lies below the heap's end. -/
theorem OwnK.belowLt (h : OwnK k s w base v n f) {B : Nat} (hb : Below B w w') (hB : ∀ g cap, v = .slice (some ⟨g, 0, none⟩) n cap → g < B) : OwnK k s w' base v n f := by
  rcases h with h | ⟨g, cap, rfl, h1, h2, h3, h4, h5⟩
  · exact .inl h
  · have hgB := hB g cap rfl
    have hr := keep_row hb hgB
    exact .inr ⟨g, cap, rfl, h1, Nat.lt_of_lt_of_le h2 hb.size, (keep_fr hb hgB).trans h3, by rw [hr]; exact h4, fun j hj => by rw [hr]; exact h5 j hj⟩
theorem OwnK.lt (h : OwnK k s w base v n f) : ∀ g cap, v = .slice (some ⟨g, 0, none⟩) n cap → g < w.heap.size := by
  intro g cap hv
  rcases h with ⟨rfl, rfl⟩ | ⟨g', cap', rfl, h1, h2, -⟩
  · cases hv
  · cases hv; exact h2
theorem OwnK.below (h : OwnK k s w base v n f) {B : Nat} (hb : Below B w w') (hB : w.heap.size ≤ B) : OwnK k s w' base v n f :=
  h.belowLt hb (fun g cap hv => Nat.lt_of_lt_of_le (h.lt g cap hv) hB)
theorem OwnK.congr (h : OwnK k s w base v n f) (hf : ∀ j, j < n * s → f j = f' j) : OwnK k s w base v n f' := by
  rcases h with h | ⟨g, cap, rfl, h1, h2, h3, h4, h5⟩
  · exact .inl h
  · exact .inr ⟨g, cap, rfl, h1, h2, h3, h4, fun j hj => by rw [← hf j hj]; exact h5 j hj⟩
theorem OwnK.down {b' : Nat} (h : OwnK k s w base v n f) (hb : b' ≤ base) : OwnK k s w b' v n f := by
  rcases h with h | ⟨g, cap, rfl, h1, h2⟩
  · exact .inl h
  · exact .inr ⟨g, cap, rfl, Nat.le_trans hb h1, h2⟩
/-- A slice that is only read: it may lie anywhere in a block. -/
def SlA (k : IntKind) (s : Nat) (w : World) (v : Value) (n : Nat) (f : Nat → Int) : Prop :=
  (v = .slice none 0 0 ∧ n = 0) ∨ ∃ a cap, v = .slice (some a) n cap ∧ (0 < n → ∃ g o, a = ⟨g, o, none⟩ ∧ g < w.heap.size ∧ ∀ j, j < n * s → (rowOf w g)[o + j]? = some (.int k (f j)))
theorem OwnK.slA (h : OwnK k s w base v n f) : SlA k s w v n f := by
  rcases h with h | ⟨g, cap, rfl, h1, h2, h3, h4, h5⟩
  · exact .inl h
  · exact .inr ⟨_, cap, rfl, fun _ => ⟨g, 0, rfl, h2, fun j hj => by rw [Nat.zero_add]; exact h5 j hj⟩⟩
theorem SlA.len (h : SlA k s w v n f) : ∃ a cap, v = .slice a n cap := by
  rcases h with ⟨rfl, rfl⟩ | ⟨g, cap, rfl, _⟩ <;> exact ⟨_, _, rfl⟩
theorem SlA.pos (h : SlA k s w v n f) (hn : 0 < n) : ∃ g o cap, v = .slice (some ⟨g, o, none⟩) n cap ∧ g < w.heap.size ∧ ∀ j, j < n * s → (rowOf w g)[o + j]? = some (.int k (f j)) := by
  rcases h with ⟨rfl, rfl⟩ | ⟨a, cap, rfl, h⟩
  · omega
  · obtain ⟨g, o, rfl, h2⟩ := h hn
    exact ⟨g, o, cap, rfl, h2⟩
theorem SlA.below (h : SlA k s w v n f) {B : Nat} (hb : Below B w w') (hB : w.heap.size ≤ B) : SlA k s w' v n f := by
  rcases h with h | ⟨a, cap, rfl, h⟩
  · exact .inl h
  · refine .inr ⟨a, cap, rfl, fun hn => ?_⟩
    obtain ⟨g, o, rfl, h2, h5⟩ := h hn
    have hr := keep_row hb (show g < B by omega)
    exact ⟨g, o, rfl, Nat.lt_of_lt_of_le h2 hb.size, fun j hj => by rw [hr]; exact h5 j hj⟩
end
/-- Two slices that don't lie in one block. -/
def Apart (v v' : Value) : Prop := ∀ g cap n g' cap' n', v = .slice (some ⟨g, 0, none⟩) n cap → v' = .slice (some ⟨g', 0, none⟩) n' cap' → g ≠ g'
theorem Apart.symm {v v' : Value} (h : Apart v v') : Apart v' v := fun g cap n g' cap' n' e1 e2 e => h g' cap' n' g cap n e2 e1 e.symm
theorem apart_of {k k' : IntKind} {s s' : Nat} {w w' : World} {b b' : Nat} {v v' : Value} {n n' : Nat} {f f' : Nat → Int} (h : OwnK k s w b v n f) (h' : OwnK k' s' w' b' v' n' f') (hle : w.heap.size ≤ b') : Apart v v' := by
  intro g cap m g' cap' m' e1 e2
  rcases h with ⟨rfl, rfl⟩ | ⟨g1, c1, rfl, h1, h2, -⟩
  · cases e1
  rcases h' with ⟨rfl, rfl⟩ | ⟨g2, c2, rfl, h3, -⟩
  · cases e2
  cases e1
  cases e2
  omega
theorem OwnK.apart {k : IntKind} {s : Nat} {w w' : World} {b : Nat} {v v' : Value} {n n' cap' g' : Nat} {f : Nat → Int} (h : OwnK k s w b v n f) (hv : v' = .slice (some ⟨g', 0, none⟩) n' cap') (ha : Apart v' v) (hsz : w.heap.size ≤ w'.heap.size) (hk : ∀ q, q ≠ g' → q < w.heap.size → rowOf w' q = rowOf w q ∧ frOf w' q = frOf w q) : OwnK k s w' b v n f := by
  rcases h with h | ⟨g, cap, rfl, h1, h2, h3, h4, h5⟩
  · exact .inl h
  · have hne : g' ≠ g := ha g' cap' n' g cap n hv rfl
    obtain ⟨e1, e2⟩ := hk g (fun e => hne e.symm) h2
    exact .inr ⟨g, cap, rfl, h1, by omega, e2.trans h3, by rw [e1]; exact h4, fun j hj => by rw [e1]; exact h5 j hj⟩
theorem below_le {B B' : Nat} {w w' : World} (h : Below B w w') (hB : B' ≤ B) : Below B' w w' := ⟨h.os, h.tape, h.output, h.size, fun k hk => h.block k (by omega)⟩
end Go.Proofs.Ytkdfkhjoijfcdaa
