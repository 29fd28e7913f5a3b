/- Slices of folds: how such an argument reads; copied, sized and compared by the statements. -/
import Derived.Test.YtkdfkhjoijfcdaaDoorSlV
import Derived.Test.YtkdfkhjoijfcdaaDoorPressP
import Derived.Laws.MakeOwn
import Derived.StillTailTactics
namespace Go.Proofs.YtkdfkhjoijfcdaaDoor
open Go.RowKit Go.ChangeShapes Go.WideShapes Go.ChangeAt Go.Deep
set_option linter.unusedVariables false
set_option linter.unusedSimpArgs false
set_option maxRecDepth 100000
/-- The cells of folds. -/
def fdV (F : Nat → Fd) (k j : Nat) : Value := if j = 0 then .int .i8 (F k).a else if j = 1 then .bool (F k).d else .int .i8 (F k).p
def fdL (f : Fd) : Array Value := #[.int .i8 f.a, .bool f.d, .int .i8 f.p]
def FdIn (f : Fd) : Prop := (-128 ≤ f.a ∧ f.a ≤ 127) ∧ -128 ≤ f.p ∧ f.p ≤ 127
theorem ext_fold {R : Array Value} {o : Nat} {F : Nat → Fd} {k : Nat} (hs : o + 3 ≤ R.size) (h : ∀ j, j < 3 → R[o + j]? = some (fdV F k j)) : rowExt R o 3 = #[.int .i8 (F k).a, .bool (F k).d, .int .i8 (F k).p] := ext_mk hs h
theorem open_slF {H : Type} {enc : TypeId × Value → H} {P : Program} {w : World} {base b0 : Nat} {spare : Nat → Bool} {held : Bool} {r : Reach} {t e : TypeId} {v : Value} {d : DataW H} {p : List MemPlace} {f0 f1 f2 : Field}
    (ht : P.underlying t = some (.slice e)) (hu : P.underlying e = some (.struct #[f0, f1, f2])) (u0 : P.underlying f0.type = some (.int .i8)) (u1 : P.underlying f1.type = some .bool) (u2 : P.underlying f2.type = some (.int .i8))
    (o0 : f0.offset = 0) (o1 : f1.offset = 1) (o2 : f2.offset = 2) (c0 : P.cellsOf f0.type = 1) (c1 : P.cellsOf f1.type = 1) (c2 : P.cellsOf f2.type = 1) (ct : P.cellsOf e = 3)
    (hv : Value.okWide P w r b0 t v) (h : DataW.Trod enc P w base spare held t v d p) :
    ∃ (n : Nat) (F : Nat → Fd), SlV 3 w v n (fdV F) ∧ n ≤ 9223372036854775807 ∧ ∀ k, k < n → FdIn (F k) := by
  obtain ⟨a0, len0, cap0, rfl⟩ := okWide_slice ht hv
  obtain ⟨fuel, hx⟩ := h
  rcases open_slice ht hx with ⟨h0, -⟩ | ⟨a, len, cap, m, n, D, Pl, h0, hb, hl, hm, hmm, -, hel⟩
  · simp only [Value.cells] at h0
    simp at h0
    obtain ⟨rfl, rfl, rfl⟩ := h0
    exact ⟨0, fun _ => ⟨0, false, 0⟩, .inl ⟨rfl, rfl⟩, by omega, fun j hj => by omega⟩
  · simp only [Value.cells] at h0
    simp at h0
    obtain ⟨rfl, rfl, rfl⟩ := h0
    have hlm : len0 ≤ m := by rw [hmm]; split <;> omega
    have each : ∀ k, k < len0 → ∃ f : Fd, FdIn f ∧ ∀ j, j < 3 → w.cell? (a.add (k * 3 + j)) = some (fdV (fun _ => f) 0 j) := by
      intro k hk
      obtain ⟨cs', h1, h2⟩ := hel k (by omega)
      obtain ⟨_, _, hcell⟩ := World.cells?_some h1
      obtain ⟨y0, y1, y2, nn, _, hl3, e0, e1, e2⟩ := Deep.trod_struct3 hu h2
      obtain ⟨x, hx, _, wx⟩ := DataW.trod_int u0 e0
      obtain ⟨b, hb2, _⟩ := DataW.trod_bool u1 e1
      obtain ⟨q, hq, _, wq⟩ := DataW.trod_int u2 e2
      simp only [o0, o1, o2, c0, c1, c2, ct] at hx hb2 hq hl3
      match cs', hl3 with
      | [x', y', z'], _ =>
        simp at hx hb2 hq
        subst hx; subst hb2; subst hq
        refine ⟨⟨x, b, q⟩, ⟨bd_i8 wx, bd_i8 wq⟩, fun j hj => ?_⟩
        have := hcell j (by rw [ct]; exact hj)
        rw [add_add, ct, Nat.mul_comm] at this
        rw [Nat.mul_comm] at this
        match j, hj with
        | 0, _ => exact this
        | 1, _ => exact this
        | 2, _ => exact this
    obtain ⟨F, hF⟩ : ∃ F : Nat → Fd, ∀ k, k < len0 → FdIn (F k) ∧ ∀ j, j < 3 → w.cell? (a.add (k * 3 + j)) = some (fdV F k j) := by
      classical
      refine ⟨fun k => if hk : k < len0 then Classical.choose (each k hk) else ⟨0, false, 0⟩, fun k hk => ?_⟩
      have hs := Classical.choose_spec (each k hk)
      refine ⟨by simp only [dif_pos hk]; exact hs.1, fun j hj => ?_⟩
      rw [hs.2 j hj]
      unfold fdV
      simp only [dif_pos hk]
    refine ⟨len0, F, .inr ⟨a, cap0, rfl, fun hn => ?_⟩, by unfold maxLen at hm; omega, fun k hk => (hF k hk).1⟩
    have h00 := (hF 0 hn).2 0 (by omega)
    have hspot : a.spot = none := by
      have : a.add (0 * 3 + 0) = a := by unfold Addr.add; simp
      rw [this] at h00
      unfold World.cell? at h00
      split at h00
      · split at h00
        · cases h00
        · rename_i hsp; simpa using hsp
      · cases h00
    obtain ⟨g, o, sp⟩ := a
    simp only at hspot
    subst hspot
    have hadd : ∀ j, (⟨g, o, none⟩ : Addr).add j = ⟨g, o + j, none⟩ := fun j => by unfold Addr.add; split <;> simp_all
    have hc : ∀ k, k < len0 → ∀ j, j < 3 → (rowOf w g)[o + k * 3 + j]? = some (fdV F k j) := fun k hk j hj => by
      have := (hF k hk).2 j hj
      rw [hadd, cell_row, ← Nat.add_assoc] at this
      exact this
    refine ⟨g, o, rfl, ?_, ?_, hc⟩
    · rw [hadd] at h00
      exact World.block_lt_of_cell? w ⟨g, o + (0 * 3 + 0), none⟩ h00
    · have := (Array.getElem?_eq_some_iff.1 (hc (len0 - 1) (by omega) 2 (by omega))).1
      omega
@[go_sem] theorem oneCell_intF (k : IntKind) (n : Int) : (Value.int k n).oneCell' = true := rfl
@[go_sem] theorem oneCell_boolF (b : Bool) : (Value.bool b).oneCell' = true := rfl
end Go.Proofs.YtkdfkhjoijfcdaaDoor
