/- A brush takes dye back from a cell: the numbers, and the codes. Written by gen_lift.py. -/
import Derived.Test.YtkdfkhjoijfcdaaDoorAskBase
import Derived.Test.YtkdfkhjoijfcdaaDoorBrush
import Derived.Test.YtkdfkhjoijfcdaaDoorMixPure
import Derived.RegionTactic
namespace Go.Proofs.YtkdfkhjoijfcdaaDoor
open Go.RowKit
set_option linter.unusedVariables false
set_option linter.unusedSimpArgs false
set_option maxRecDepth 100000
def mn (a b : Int) : Int := if a < b then a else b
theorem mn_cases (a b : Int) : (a < b ∧ mn a b = a) ∨ (b ≤ a ∧ mn a b = b) := by unfold mn; split <;> omega
/-- How much of the k-th ink goes over: D is the place of the cell's first dye, L what the brush has. -/
def lift0 (c : Nat → Int) (D : Nat) (L p : Int) : Int := mn (c D * p / 16) (900 - L)
def lift1 (c : Nat → Int) (D : Nat) (L p : Int) : Int := mn (c (D + 1) * p / 16) (900 - (L + lift0 c D L p))
def lift2 (c : Nat → Int) (D : Nat) (L p : Int) : Int := mn (c (D + 2) * p / 16) (900 - (L + lift0 c D L p + lift1 c D L p))
theorem mul_part {v p : Int} (hv : 0 ≤ v ∧ v ≤ 1000) (hp : 0 ≤ p ∧ p ≤ 16) : 0 ≤ v * p ∧ v * p ≤ 16000 ∧ v * p / 16 ≤ v := by
  have h := mul_bd hv hp
  refine ⟨h.1, by omega, ?_⟩
  have : v * p ≤ v * 16 := Int.mul_le_mul_of_nonneg_left hp.2 hv.1
  omega
theorem mn_in {a b v : Int} (ha : 0 ≤ a) (hv : a ≤ v) (hb : 0 ≤ b) : 0 ≤ mn a b ∧ mn a b ≤ v ∧ mn a b ≤ b := by unfold mn; split <;> omega
theorem lift_in {c : Nat → Int} {D : Nat} {L p : Int} (h0 : 0 ≤ c D ∧ c D ≤ 1000) (h1 : 0 ≤ c (D + 1) ∧ c (D + 1) ≤ 1000) (h2 : 0 ≤ c (D + 2) ∧ c (D + 2) ≤ 1000) (hL : 0 ≤ L ∧ L ≤ 900) (hp : 0 ≤ p ∧ p ≤ 16) :
    (0 ≤ lift0 c D L p ∧ lift0 c D L p ≤ c D ∧ lift0 c D L p ≤ 900 - L) ∧ (0 ≤ lift1 c D L p ∧ lift1 c D L p ≤ c (D + 1) ∧ lift1 c D L p ≤ 900 - (L + lift0 c D L p)) ∧ 0 ≤ lift2 c D L p ∧ lift2 c D L p ≤ c (D + 2) ∧ lift2 c D L p ≤ 900 - (L + lift0 c D L p + lift1 c D L p) := by
  have m0 := mul_part h0 hp
  have m1 := mul_part h1 hp
  have m2 := mul_part h2 hp
  have a0 : 0 ≤ lift0 c D L p ∧ lift0 c D L p ≤ c D ∧ lift0 c D L p ≤ 900 - L := mn_in (by omega) m0.2.2 (by omega)
  have a1 : 0 ≤ lift1 c D L p ∧ lift1 c D L p ≤ c (D + 1) ∧ lift1 c D L p ≤ 900 - (L + lift0 c D L p) := mn_in (by omega) m1.2.2 (by omega)
  exact ⟨a0, a1, mn_in (by omega) m2.2.2 (by omega)⟩
def liftC (c : Nat → Int) (D : Nat) (L p : Int) : Nat → Nat → Int
  | 0 => c
  | 1 => upI c D (c D - lift0 c D L p)
  | 2 => upI (upI c D (c D - lift0 c D L p)) (D + 1) (c (D + 1) - lift1 c D L p)
  | _ => upI (upI (upI c D (c D - lift0 c D L p)) (D + 1) (c (D + 1) - lift1 c D L p)) (D + 2) (c (D + 2) - lift2 c D L p)
theorem liftC_next (c : Nat → Int) (D : Nat) (L p : Int) : liftC c D L p 1 = upI (liftC c D L p 0) D (c D - lift0 c D L p) ∧ liftC c D L p 2 = upI (liftC c D L p 1) (D + 1) (c (D + 1) - lift1 c D L p) ∧ liftC c D L p 3 = upI (liftC c D L p 2) (D + 2) (c (D + 2) - lift2 c D L p) := ⟨rfl, rfl, rfl⟩
theorem liftC_at (c : Nat → Int) (D : Nat) (L p : Int) : liftC c D L p 0 D = c D ∧ liftC c D L p 1 (D + 1) = c (D + 1) ∧ liftC c D L p 2 (D + 2) = c (D + 2) := by
  refine ⟨rfl, ?_, ?_⟩
  · show upI _ _ _ _ = _; unfold upI; rw [if_neg (by omega)]
  · show upI _ _ _ _ = _; unfold upI; rw [if_neg (by omega), if_neg (by omega)]
theorem sk_dye {x y k : Nat} (hx : x < 8) (hy : y < 8) (hk : k < 3) : sk (66 + y * 24 + x * 3 + k) = .i16 := by unfold sk; rw [if_neg (by omega), if_pos (by omega)]
/-- The place of a cell's first dye. -/
def dyeP (x y : Nat) : Nat := 66 + y * 24 + x * 3
theorem ok_dyes {c : Nat → Int} (h : okS c = true) {x y : Nat} (hx : x < 8) (hy : y < 8) : (0 ≤ c (dyeP x y) ∧ c (dyeP x y) ≤ 1000) ∧ (0 ≤ c (dyeP x y + 1) ∧ c (dyeP x y + 1) ≤ 1000) ∧ 0 ≤ c (dyeP x y + 2) ∧ c (dyeP x y + 2) ≤ 1000 := by
  have hok : OkS c := by simpa [okS] using h
  have := hok.2.2 y hy x hx
  unfold dyeP
  obtain ⟨g0, g1, g2, g3, g4⟩ := this
  exact ⟨by omega, by omega, by omega⟩
def askL (b o i f : Bool) : Int := if b then askB o i f else 1
noncomputable def liftV (c : Nat → Int) (a b d wt sh x y p : Int) : Value :=
  if okBrush a b d wt sh = true ∧ okS c = true ∧ isP c x y = true ∧ inB p 0 16 = true then
    .tuple #[.agg (kc sk 266 (liftC c (dyeP x.toNat y.toNat) (a + b + d) p 3)), .agg (brush (a + lift0 c (dyeP x.toNat y.toNat) (a + b + d) p) (b + lift1 c (dyeP x.toNat y.toNat) (a + b + d) p) (d + lift2 c (dyeP x.toNat y.toNat) (a + b + d) p) wt sh), .int .i64 0]
  else .tuple #[.agg (kc sk 266 fun _ => 0), .agg (brush 0 0 0 0 0), .int .i64 (askL (okBrush a b d wt sh) (okS c) (isP c x y) (inB p 0 16))]
theorem liftV_is (c : Nat → Int) (a b d wt sh x y p : Int) : ∃ (e : Nat → Int) (a1 b1 d1 wt1 sh1 z : Int), liftV c a b d wt sh x y p = .tuple #[.agg (kc sk 266 e), .agg (brush a1 b1 d1 wt1 sh1), .int .i64 z] := by
  unfold liftV; split <;> exact ⟨_, _, _, _, _, _, _, rfl⟩
theorem liftV_no {c : Nat → Int} {a b d wt sh x y p : Int} (h : ¬ (okBrush a b d wt sh = true ∧ okS c = true ∧ isP c x y = true ∧ inB p 0 16 = true)) : liftV c a b d wt sh x y p = .tuple #[.agg (kc sk 266 fun _ => 0), .agg (brush 0 0 0 0 0), .int .i64 (askL (okBrush a b d wt sh) (okS c) (isP c x y) (inB p 0 16))] := if_neg h
theorem liftV_yes {c : Nat → Int} {a b d wt sh p : Int} {x y : Nat} (h : okBrush a b d wt sh = true ∧ okS c = true ∧ isP c x y = true ∧ inB p 0 16 = true) : liftV c a b d wt sh x y p = .tuple #[.agg (kc sk 266 (liftC c (dyeP x y) (a + b + d) p 3)), .agg (brush (a + lift0 c (dyeP x y) (a + b + d) p) (b + lift1 c (dyeP x y) (a + b + d) p) (d + lift2 c (dyeP x y) (a + b + d) p) wt sh), .int .i64 0] := by
  unfold liftV; rw [if_pos h]; simp only [Int.toNat_natCast]
/-- What is known at the head of a round: k inks have gone over. -/
def LiftR (c : Nat → Int) (a b d wt sh : Int) (x y : Nat) (p : Int) (w : World) (k : Nat) (wr : World) : Prop := Below w.heap.size w wr ∧ w.heap.size + 5 ≤ wr.heap.size ∧ rowOf wr w.heap.size = kc sk 266 (liftC c (dyeP x y) (a + b + d) p k) ∧ frOf wr w.heap.size = (0, 0) ∧
  rowOf wr (w.heap.size + 1) = brush (if 0 < k then a + lift0 c (dyeP x y) (a + b + d) p else a) (if 1 < k then b + lift1 c (dyeP x y) (a + b + d) p else b) (if 2 < k then d + lift2 c (dyeP x y) (a + b + d) p else d) wt sh ∧ frOf wr (w.heap.size + 1) = (0, 0) ∧
  rowOf wr (w.heap.size + 1 + 1) = #[.int .i8 x, .int .i8 y] ∧ rowOf wr (w.heap.size + 1 + 1 + 1) = kc sk 266 (fun _ => 0) ∧ frOf wr (w.heap.size + 1 + 1 + 1) = (0, 0) ∧ rowOf wr (w.heap.size + 1 + 1 + 1 + 1) = brush 0 0 0 0 0 ∧ frOf wr (w.heap.size + 1 + 1 + 1 + 1) = (0, 0)
end Go.Proofs.YtkdfkhjoijfcdaaDoor
