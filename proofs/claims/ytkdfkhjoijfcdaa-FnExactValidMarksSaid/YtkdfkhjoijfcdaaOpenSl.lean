/- How an argument that is a slice of elements made of integers of one kind reads. No program. -/
import Derived.Test.YtkdfkhjoijfcdaaOpen
import Derived.Test.YtkdfkhjoijfcdaaSlI
import Derived.Deep.Slices
namespace Go.Proofs.Ytkdfkhjoijfcdaa
open Go.RowKit Go.ChangeShapes Go.WideShapes Go.ChangeAt Go.Deep
set_option linter.unusedVariables false
set_option linter.unusedSimpArgs false
set_option maxRecDepth 100000
theorem choose_nums {n : Nat} {k : IntKind} {p : Nat → Value → Prop} (h : ∀ j, j < n → ∃ z : Int, p j (.int k z) ∧ (Lit.int k z).wf = true) : ∃ f : Nat → Int, ∀ j, j < n → p j (.int k (f j)) ∧ (Lit.int k (f j)).wf = true := by
  classical
  refine ⟨fun j => if hj : j < n then Classical.choose (h j hj) else 0, fun j hj => ?_⟩
  simp only [dif_pos hj]
  exact Classical.choose_spec (h j hj)
theorem open_slA {H : Type} {enc : TypeId × Value → H} {P : Program} {w : World} {base b0 : Nat} {spare : Nat → Bool} {held : Bool} {r : Reach} {t e : TypeId} {k : IntKind} {s : Nat} {v : Value} {d : DataW H} {p : List MemPlace}
    (ht : P.underlying t = some (.slice e)) (hf : isFlat P e s (fun _ => k) = true) (hs : 0 < s) (hv : Value.okWide P w r b0 t v) (h : DataW.Trod enc P w base spare held t v d p) :
    ∃ (n : Nat) (f : Nat → Int), SlA k s w v n f ∧ n ≤ 9223372036854775807 ∧ ∀ j, j < n * s → (Lit.int k (f j)).wf = true := by
  unfold isFlat at hf
  simp only [Bool.and_eq_true, beq_iff_eq, decide_eq_true_eq] at hf
  obtain ⟨a0, len0, cap0, rfl⟩ := okWide_slice ht hv
  obtain ⟨fuel, hx⟩ := h
  rcases open_slice ht hx with ⟨h0, -⟩ | ⟨a, len, cap, m, n, D, Pl, h0, hb, hl, hm, hmm, -, hel⟩
  · simp only [Value.cells] at h0
    simp at h0
    obtain ⟨rfl, rfl, rfl⟩ := h0
    exact ⟨0, fun _ => 0, .inl ⟨rfl, rfl⟩, by omega, fun j hj => by omega⟩
  · simp only [Value.cells] at h0
    simp at h0
    obtain ⟨rfl, rfl, rfl⟩ := h0
    have hlm : len0 ≤ m := by rw [hmm]; split <;> omega
    have each : ∀ j, j < len0 * s → ∃ z : Int, w.cell? (a.add j) = some (.int k z) ∧ (Lit.int k z).wf = true := by
      intro j hj
      have hjs : j / s < len0 := (Nat.div_lt_iff_lt_mul hs).2 hj
      have hjr : j % s < s := Nat.mod_lt _ hs
      obtain ⟨cs', h1, h2⟩ := hel (j / s) (by omega)
      have hk := flat_reads 8 e _ hf.1 (by simp [hf.2]) h2
      obtain ⟨z, hz, hw⟩ := hk.2 (j % s) k (by simp [hjr])
      obtain ⟨_, _, hcell⟩ := World.cells?_some h1
      have := hcell (j % s) (by rw [hf.2]; exact hjr)
      rw [hz, add_add, hf.2, Nat.mul_comm, Nat.div_add_mod] at this
      exact ⟨z, this, hw⟩
    obtain ⟨f, hfn⟩ := choose_nums (p := fun j u => w.cell? (a.add j) = some u) each
    refine ⟨len0, f, .inr ⟨a, cap0, rfl, fun hn => ?_⟩, by unfold maxLen at hm; omega, fun j hj => (hfn j hj).2⟩
    have h00 := (hfn 0 (Nat.mul_pos hn hs)).1
    have hspot : a.spot = none := by
      have : a.add 0 = a := by unfold Addr.add; simp
      rw [this] at h00
      unfold World.cell? at h00
      split at h00
      · split at h00
        · cases h00
        · rename_i hsp; simpa using hsp
      · cases h00
    obtain ⟨g, o, sp⟩ := a
    simp only at hspot
    subst hspot
    have hadd : ∀ j, (⟨g, o, none⟩ : Addr).add j = ⟨g, o + j, none⟩ := fun j => by unfold Addr.add; split <;> simp_all
    refine ⟨g, o, rfl, ?_, fun j hj => ?_⟩
    · have := h00
      rw [hadd, Nat.add_zero] at this
      exact World.block_lt_of_cell? w ⟨g, o, none⟩ this
    · have := (hfn j hj).1
      rw [hadd, cell_row] at this
      exact this
end Go.Proofs.Ytkdfkhjoijfcdaa
