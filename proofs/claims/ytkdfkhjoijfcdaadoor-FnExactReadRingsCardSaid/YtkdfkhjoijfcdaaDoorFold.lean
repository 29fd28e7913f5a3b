/- Folds: whether one is valid. -/
import Derived.Test.YtkdfkhjoijfcdaaDoorAskBase
import Derived.Deep.Strs
namespace Go.Proofs.YtkdfkhjoijfcdaaDoor
open Go.RowKit Go.ChangeShapes Go.WideShapes Go.ChangeAt
set_option linter.unusedVariables false
set_option linter.unusedSimpArgs false
set_option maxRecDepth 100000
/-- A fold as the statements hand it over. -/
theorem open_fold {H : Type} {enc : TypeId × Value → H} {P : Program} {w W : World} {base b0 : Nat} {spare : Nat → Bool} {held : Bool} {r : Reach} {t : TypeId} {v : Value} {d : DataW H} {p : List MemPlace} {f0 f1 f2 : Field}
    (hu : P.underlying t = some (.struct #[f0, f1, f2])) (u0 : P.underlying f0.type = some (.int .i8)) (u1 : P.underlying f1.type = some .bool) (u2 : P.underlying f2.type = some (.int .i8))
    (o0 : f0.offset = 0) (o1 : f1.offset = 1) (o2 : f2.offset = 2) (c0 : P.cellsOf f0.type = 1) (c1 : P.cellsOf f1.type = 1) (c2 : P.cellsOf f2.type = 1) (ct : P.cellsOf t = 3)
    (hv : Value.okWide P W r b0 t v) (h : DataW.Trod enc P w base spare held t v d p) : ∃ (a : Int) (b : Bool) (q : Int), v = .agg #[.int .i8 a, .bool b, .int .i8 q] ∧ (-128 ≤ a ∧ a ≤ 127) ∧ -128 ≤ q ∧ q ≤ 127 := by
  unfold Value.okWide at hv
  rw [hu] at hv
  obtain ⟨cs, rfl, _⟩ := hv
  obtain ⟨fuel, hx⟩ := h
  obtain ⟨y0, y1, y2, n, _, hl, e0, e1, e2⟩ := Deep.trod_struct3 hu hx
  obtain ⟨a, ha, _, wa⟩ := DataW.trod_int u0 e0
  obtain ⟨b, hb, _⟩ := DataW.trod_bool u1 e1
  obtain ⟨q, hq, _, wq⟩ := DataW.trod_int u2 e2
  simp only [Value.cells, o0, o1, o2, c0, c1, c2, ct] at ha hb hq hl
  obtain ⟨l⟩ := cs
  match l, hl with
  | [x, y, z], _ =>
    simp at ha hb hq
    subst ha; subst hb; subst hq
    exact ⟨a, b, q, rfl, bd_i8 wa, bd_i8 wq⟩
def foldB (c : Nat → Int) (a : Int) (d : Bool) (q : Int) : Bool := inB a 1 ((if d then c 1 else c 0) - 1) && inB q 1 8
end Go.Proofs.YtkdfkhjoijfcdaaDoor
