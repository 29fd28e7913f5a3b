/- Slices of elements that are rows of cells: owned and read, and how such an argument reads. No program. -/
import Derived.Test.YtkdfkhjoijfcdaaOpenSl
import Derived.Test.YtkdfkhjoijfcdaaKx
namespace Go.Proofs.Ytkdfkhjoijfcdaa
open Go.RowKit Go.ChangeShapes Go.WideShapes Go.ChangeAt Go.Deep
set_option linter.unusedVariables false
set_option linter.unusedSimpArgs false
set_option maxRecDepth 100000
/-- A slice of n elements of s cells each: the cells are V's; if it isn't nil its block may be written and lies at base or behind. -/
def OwnV (s : Nat) (w : World) (base : Nat) (v : Value) (n : Nat) (V : Nat → Nat → Value) : Prop :=
  (v = .slice none 0 0 ∧ n = 0) ∨ ∃ g cap, v = .slice (some ⟨g, 0, none⟩) n cap ∧ base ≤ g ∧ g < w.heap.size ∧ frOf w g = (0, 0) ∧ n * s ≤ (rowOf w g).size ∧ ∀ k, k < n → ∀ j, j < s → (rowOf w g)[k * s + j]? = some (V k j)
/-- A slice that is only read: it may lie anywhere in a block. -/
def SlV (s : Nat) (w : World) (v : Value) (n : Nat) (V : Nat → Nat → Value) : Prop :=
  (v = .slice none 0 0 ∧ n = 0) ∨ ∃ a cap, v = .slice (some a) n cap ∧ (0 < n → ∃ g o, a = ⟨g, o, none⟩ ∧ g < w.heap.size ∧ o + n * s ≤ (rowOf w g).size ∧ ∀ k, k < n → ∀ j, j < s → (rowOf w g)[o + k * s + j]? = some (V k j))
section
variable {s : Nat} {w w' : World} {base : Nat} {v : Value} {n : Nat} {V V' : Nat → Nat → Value}
theorem OwnV.len (h : OwnV s w base v n V) : ∃ a cap, v = .slice a n cap := by
  rcases h with ⟨rfl, rfl⟩ | ⟨g, cap, rfl, _⟩ <;> exact ⟨_, _, rfl⟩
theorem OwnV.pos (h : OwnV s w base v n V) (hn : 0 < n) : ∃ g cap, v = .slice (some ⟨g, 0, none⟩) n cap ∧ base ≤ g ∧ g < w.heap.size ∧ frOf w g = (0, 0) ∧ n * s ≤ (rowOf w g).size ∧ ∀ k, k < n → ∀ j, j < s → (rowOf w g)[k * s + j]? = some (V k j) := by
  rcases h with ⟨rfl, rfl⟩ | h
  · omega
  · exact h
theorem OwnV.lt (h : OwnV s w base v n V) : ∀ g cap, v = .slice (some ⟨g, 0, none⟩) n cap → g < w.heap.size := by
  intro g cap hv
  rcases h with ⟨rfl, rfl⟩ | ⟨g', cap', rfl, h1, h2, -⟩
  · cases hv
  · cases hv; exact h2
theorem OwnV.belowLt (h : OwnV s w base v n V) {B : Nat} (hb : Below B w w') (hB : ∀ g cap, v = .slice (some ⟨g, 0, none⟩) n cap → g < B) : OwnV s w' base v n V := by
  rcases h with h | ⟨g, cap, rfl, h1, h2, h3, h4, h5⟩
  · exact .inl h
  · have hgB := hB g cap rfl
    have hr := keep_row hb hgB
    exact .inr ⟨g, cap, rfl, h1, Nat.lt_of_lt_of_le h2 hb.size, (keep_fr hb hgB).trans h3, by rw [hr]; exact h4, fun k hk j hj => by rw [hr]; exact h5 k hk j hj⟩
theorem OwnV.below (h : OwnV s w base v n V) {B : Nat} (hb : Below B w w') (hB : w.heap.size ≤ B) : OwnV s w' base v n V :=
  h.belowLt hb (fun g cap hv => Nat.lt_of_lt_of_le (h.lt g cap hv) hB)
theorem OwnV.congr (h : OwnV s w base v n V) (hf : ∀ k, k < n → ∀ j, j < s → V k j = V' k j) : OwnV s w base v n V' := by
  rcases h with h | ⟨g, cap, rfl, h1, h2, h3, h4, h5⟩
  · exact .inl h
  · exact .inr ⟨g, cap, rfl, h1, h2, h3, h4, fun k hk j hj => by rw [← hf k hk j hj]; exact h5 k hk j hj⟩
theorem OwnV.down {b' : Nat} (h : OwnV s w base v n V) (hb : b' ≤ base) : OwnV s w b' v n V := by
  rcases h with h | ⟨g, cap, rfl, h1, h2⟩
  · exact .inl h
  · exact .inr ⟨g, cap, rfl, Nat.le_trans hb h1, h2⟩
theorem OwnV.slV (h : OwnV s w base v n V) : SlV s w v n V := by
  rcases h with h | ⟨g, cap, rfl, h1, h2, h3, h4, h5⟩
  · exact .inl h
  · exact .inr ⟨_, cap, rfl, fun _ => ⟨g, 0, rfl, h2, by omega, fun k hk j hj => by rw [Nat.zero_add]; exact h5 k hk j hj⟩⟩
theorem OwnV.of {e : TypeId} {xs : List Value} (h : w.ownsRow base e s v n xs) (hx : ∀ k, k < n → ∀ j, j < s → xs[k * s + j]? = some (V k j)) : OwnV s w base v n V := by
  obtain ⟨hl, ⟨rfl, rfl⟩ | ⟨g, cap, cur, rfl, hb, hg, h1, h2, h3, ht⟩⟩ := h
  · exact .inl ⟨rfl, rfl⟩
  · have hrow : rowOf w g = cur := by simp [rowOf, hg, objRow]
    refine .inr ⟨g, cap, rfl, hb, (Array.getElem?_eq_some_iff.1 hg).1, by simp [frOf, hg, objFr], by rw [hrow, h3]; exact Nat.mul_le_mul_right _ h1, fun k hk j hj => ?_⟩
    have e := hx k hk j hj
    have hlt : k * s + j < n * s := by
      have := Nat.mul_le_mul_right s (show k + 1 ≤ n by omega)
      rw [Nat.succ_mul] at this; omega
    rw [hrow, ← Array.getElem?_toList]
    rw [← ht, List.getElem?_take, if_pos hlt] at e
    exact e
theorem SlV.len (h : SlV s w v n V) : ∃ a cap, v = .slice a n cap := by
  rcases h with ⟨rfl, rfl⟩ | ⟨g, cap, rfl, _⟩ <;> exact ⟨_, _, rfl⟩
theorem SlV.pos (h : SlV s w v n V) (hn : 0 < n) : ∃ g o cap, v = .slice (some ⟨g, o, none⟩) n cap ∧ g < w.heap.size ∧ o + n * s ≤ (rowOf w g).size ∧ ∀ k, k < n → ∀ j, j < s → (rowOf w g)[o + k * s + j]? = some (V k j) := by
  rcases h with ⟨rfl, rfl⟩ | ⟨a, cap, rfl, h⟩
  · omega
  · obtain ⟨g, o, rfl, h2⟩ := h hn
    exact ⟨g, o, cap, rfl, h2⟩
theorem SlV.below (h : SlV s w v n V) {B : Nat} (hb : Below B w w') (hB : w.heap.size ≤ B) : SlV s w' v n V := by
  rcases h with h | ⟨a, cap, rfl, h⟩
  · exact .inl h
  · refine .inr ⟨a, cap, rfl, fun hn => ?_⟩
    obtain ⟨g, o, rfl, h2, h4, h5⟩ := h hn
    have hr := keep_row hb (show g < B by omega)
    exact ⟨g, o, rfl, Nat.lt_of_lt_of_le h2 hb.size, by rw [hr]; exact h4, fun k hk j hj => by rw [hr]; exact h5 k hk j hj⟩
end
theorem apart_ofV {s s' : Nat} {w w' : World} {b b' : Nat} {v v' : Value} {n n' : Nat} {V V' : Nat → Nat → Value} (h : OwnV s w b v n V) (h' : OwnV s' w' b' v' n' V') (hle : w.heap.size ≤ b') : Apart v v' := by
  intro g cap m g' cap' m' e1 e2
  rcases h with ⟨rfl, rfl⟩ | ⟨g1, c1, rfl, h1, h2, -⟩
  · cases e1
  rcases h' with ⟨rfl, rfl⟩ | ⟨g2, c2, rfl, h3, -⟩
  · cases e2
  cases e1
  cases e2
  omega
theorem OwnV.apart {s : Nat} {w w' : World} {b : Nat} {v v' : Value} {n n' cap' g' : Nat} {V : Nat → Nat → Value} (h : OwnV s w b v n V) (hv : v' = .slice (some ⟨g', 0, none⟩) n' cap') (ha : Apart v' v) (hsz : w.heap.size ≤ w'.heap.size) (hk : ∀ q, q ≠ g' → q < w.heap.size → rowOf w' q = rowOf w q ∧ frOf w' q = frOf w q) : OwnV s w' b v n V := by
  rcases h with h | ⟨g, cap, rfl, h1, h2, h3, h4, h5⟩
  · exact .inl h
  · have hne : g' ≠ g := ha g' cap' n' g cap n hv rfl
    obtain ⟨e1, e2⟩ := hk g (fun e => hne e.symm) h2
    exact .inr ⟨g, cap, rfl, h1, by omega, e2.trans h3, by rw [e1]; exact h4, fun k hk j hj => by rw [e1]; exact h5 k hk j hj⟩
/-- An element as a part of its row. -/
theorem ext_mk {R : Array Value} {o s : Nat} {V : Nat → Value} (hs : o + s ≤ R.size) (h : ∀ j, j < s → R[o + j]? = some (V j)) : rowExt R o s = mk s V := by
  refine mk_of_size _ _ (by simp [rowExt]; omega) (fun j hj => ?_)
  unfold rowExt
  rw [Array.getElem?_extract, if_pos (by omega)]
  exact h j hj
/-- The cells of sheets. -/
def shV (F : Nat → Nat → Int) (k j : Nat) : Value := .int (sk j) (F k j)
theorem ext_sheet {R : Array Value} {o : Nat} {F : Nat → Nat → Int} {k : Nat} (hs : o + 266 ≤ R.size) (h : ∀ j, j < 266 → R[o + j]? = some (shV F k j)) : rowExt R o 266 = kc sk 266 (F k) := ext_mk hs h
/-- Cells laid over a row, read again. -/
theorem splice_get (cs vs : Array Value) (o j : Nat) (h : o + vs.size ≤ cs.size) : (splice cs o vs)[j]? = if o ≤ j ∧ j < o + vs.size then vs[j - o]? else cs[j]? := by
  unfold splice
  by_cases hj : j < cs.size
  · rw [mk_get _ _ _ hj]
    split
    · rw [Array.getD_eq_getD_getElem?, Array.getElem?_eq_getElem (by omega)]; rfl
    · rw [Array.getElem?_eq_getElem hj]; simp [Array.getD, hj]
  · rw [if_neg (by omega), Array.getElem?_eq_none (by rw [mk_size]; omega), Array.getElem?_eq_none (by omega)]
theorem splice_size (cs vs : Array Value) (o : Nat) : (splice cs o vs).size = cs.size := mk_size _ _
theorem open_slV {H : Type} {enc : TypeId × Value → H} {P : Program} {w : World} {base b0 : Nat} {spare : Nat → Bool} {held : Bool} {r : Reach} {t e : TypeId} {ks : Nat → IntKind} {s : Nat} {v : Value} {d : DataW H} {p : List MemPlace}
    (ht : P.underlying t = some (.slice e)) (hf : isFlat P e s ks = true) (hs : 0 < s) (hv : Value.okWide P w r b0 t v) (h : DataW.Trod enc P w base spare held t v d p) :
    ∃ (n : Nat) (F : Nat → Nat → Int), SlV s w v n (fun k j => .int (ks j) (F k j)) ∧ n ≤ 9223372036854775807 ∧ ∀ k, k < n → FitRow ks s (F k) := by
  unfold isFlat at hf
  simp only [Bool.and_eq_true, beq_iff_eq, decide_eq_true_eq] at hf
  obtain ⟨a0, len0, cap0, rfl⟩ := okWide_slice ht hv
  obtain ⟨fuel, hx⟩ := h
  rcases open_slice ht hx with ⟨h0, -⟩ | ⟨a, len, cap, m, n, D, Pl, h0, hb, hl, hm, hmm, -, hel⟩
  · simp only [Value.cells] at h0
    simp at h0
    obtain ⟨rfl, rfl, rfl⟩ := h0
    exact ⟨0, fun _ _ => 0, .inl ⟨rfl, rfl⟩, by omega, fun j hj => by omega⟩
  · simp only [Value.cells] at h0
    simp at h0
    obtain ⟨rfl, rfl, rfl⟩ := h0
    have hlm : len0 ≤ m := by rw [hmm]; split <;> omega
    have each : ∀ j, j < len0 * s → ∃ z : Int, w.cell? (a.add j) = some (.int (ks (j % s)) z) ∧ (Lit.int (ks (j % s)) z).wf = true := by
      intro j hj
      have hjs : j / s < len0 := (Nat.div_lt_iff_lt_mul hs).2 hj
      have hjr : j % s < s := Nat.mod_lt _ hs
      obtain ⟨cs', h1, h2⟩ := hel (j / s) (by omega)
      have hk := flat_reads 8 e _ hf.1 (by simp [hf.2]) h2
      obtain ⟨z, hz, hw⟩ := hk.2 (j % s) (ks (j % s)) (by simp [hjr])
      obtain ⟨_, _, hcell⟩ := World.cells?_some h1
      have := hcell (j % s) (by rw [hf.2]; exact hjr)
      rw [hz, add_add, hf.2, Nat.mul_comm, Nat.div_add_mod] at this
      exact ⟨z, this, hw⟩
    obtain ⟨f, hfn⟩ : ∃ f : Nat → Int, ∀ j, j < len0 * s → w.cell? (a.add j) = some (.int (ks (j % s)) (f j)) ∧ (Lit.int (ks (j % s)) (f j)).wf = true := by
      classical
      refine ⟨fun j => if hj : j < len0 * s then Classical.choose (each j hj) else 0, fun j hj => ?_⟩
      simp only [dif_pos hj]
      exact Classical.choose_spec (each j hj)
    have hlt : ∀ k, k < len0 → ∀ j, j < s → k * s + j < len0 * s := fun k hk j hj => by
      have := Nat.mul_le_mul_right s (show k + 1 ≤ len0 by omega)
      rw [Nat.succ_mul] at this; omega
    have hmod : ∀ k j, j < s → (k * s + j) % s = j := fun k j hj => by rw [Nat.add_comm, Nat.add_mul_mod_self_right]; exact Nat.mod_eq_of_lt hj
    refine ⟨len0, fun k j => f (k * s + j), .inr ⟨a, cap0, rfl, fun hn => ?_⟩, by unfold maxLen at hm; omega, fun k hk j hj => by have := (hfn (k * s + j) (hlt k hk j hj)).2; rwa [hmod k j hj] at this⟩
    have h00 := (hfn 0 (Nat.mul_pos hn hs)).1
    have hspot : a.spot = none := by
      have : a.add 0 = a := by unfold Addr.add; simp
      rw [this] at h00
      unfold World.cell? at h00
      split at h00
      · split at h00
        · cases h00
        · rename_i hsp; simpa using hsp
      · cases h00
    obtain ⟨g, o, sp⟩ := a
    simp only at hspot
    subst hspot
    have hadd : ∀ j, (⟨g, o, none⟩ : Addr).add j = ⟨g, o + j, none⟩ := fun j => by unfold Addr.add; split <;> simp_all
    have hc : ∀ j, j < len0 * s → (rowOf w g)[o + j]? = some (.int (ks (j % s)) (f j)) := fun j hj => by
      have := (hfn j hj).1
      rw [hadd, cell_row] at this
      exact this
    refine ⟨g, o, rfl, ?_, ?_, fun k hk j hj => ?_⟩
    · have := h00
      rw [hadd, Nat.add_zero] at this
      exact World.block_lt_of_cell? w ⟨g, o, none⟩ this
    · have hp : 0 < len0 * s := Nat.mul_pos hn hs
      have := (Array.getElem?_eq_some_iff.1 (hc (len0 * s - 1) (by omega))).1
      omega
    · have := hc (k * s + j) (hlt k hk j hj)
      rwa [hmod k j hj, ← Nat.add_assoc] at this
end Go.Proofs.Ytkdfkhjoijfcdaa
