/- A brush takes dye back from a cell: the numbers, and the codes. Written by gen_lift.py. -/
import Derived.Test.YtigiooollonmjaaAskBase
import Derived.Test.YtigiooollonmjaaBrush
import Derived.Test.YtigiooollonmjaaMixPure
import Derived.RegionTactic
namespace Go.Proofs.Ytigiooollonmjaa
open Go.RowKit
set_option linter.unusedVariables false
set_option linter.unusedSimpArgs false
set_option maxRecDepth 100000
def mn (a b : Int) : Int := if a < b then a else b
theorem mn_cases (a b : Int) : (a < b ∧ mn a b = a) ∨ (b ≤ a ∧ mn a b = b) := by unfold mn; split <;> omega
/-- How much of the k-th ink goes over: D is the place of the cell's first dye, L what the brush has. -/
def lift0 (c : Nat → Int) (D : Nat) (L p : Int) : Int := mn (c D * p / 16) (900 - L)
def lift1 (c : Nat → Int) (D : Nat) (L p : Int) : Int := mn (c (D + 1) * p / 16) (900 - (L + lift0 c D L p))
def lift2 (c : Nat → Int) (D : Nat) (L p : Int) : Int := mn (c (D + 2) * p / 16) (900 - (L + lift0 c D L p + lift1 c D L p))
theorem mul_part {v p : Int} (hv : 0 ≤ v ∧ v ≤ 1000) (hp : 0 ≤ p ∧ p ≤ 16) : 0 ≤ v * p ∧ v * p ≤ 16000 ∧ v * p / 16 ≤ v := by
  have h := mul_bd hv hp
  refine ⟨h.1, by omega, ?_⟩
  have : v * p ≤ v * 16 := Int.mul_le_mul_of_nonneg_left hp.2 hv.1
  omega
theorem mn_in {a b v : Int} (ha : 0 ≤ a) (hv : a ≤ v) (hb : 0 ≤ b) : 0 ≤ mn a b ∧ mn a b ≤ v ∧ mn a b ≤ b := by unfold mn; split <;> omega
theorem lift_in {c : Nat → Int} {D : Nat} {L p : Int} (h0 : 0 ≤ c D ∧ c D ≤ 1000) (h1 : 0 ≤ c (D + 1) ∧ c (D + 1) ≤ 1000) (h2 : 0 ≤ c (D + 2) ∧ c (D + 2) ≤ 1000) (hL : 0 ≤ L ∧ L ≤ 900) (hp : 0 ≤ p ∧ p ≤ 16) :
    (0 ≤ lift0 c D L p ∧ lift0 c D L p ≤ c D ∧ lift0 c D L p ≤ 900 - L) ∧ (0 ≤ lift1 c D L p ∧ lift1 c D L p ≤ c (D + 1) ∧ lift1 c D L p ≤ 900 - (L + lift0 c D L p)) ∧ 0 ≤ lift2 c D L p ∧ lift2 c D L p ≤ c (D + 2) ∧ lift2 c D L p ≤ 900 - (L + lift0 c D L p + lift1 c D L p) := by
  have m0 := mul_part h0 hp
  have m1 := mul_part h1 hp
  have m2 := mul_part h2 hp
  have a0 : 0 ≤ lift0 c D L p ∧ lift0 c D L p ≤ c D ∧ lift0 c D L p ≤ 900 - L := mn_in (by omega) m0.2.2 (by omega)
  have a1 : 0 ≤ lift1 c D L p ∧ lift1 c D L p ≤ c (D + 1) ∧ lift1 c D L p ≤ 900 - (L + lift0 c D L p) := mn_in (by omega) m1.2.2 (by omega)
  exact ⟨a0, a1, mn_in (by omega) m2.2.2 (by omega)⟩
def liftC (c : Nat → Int) (D : Nat) (L p : Int) : Nat → Nat → Int
  | 0 => c
  | 1 => upI c D (c D - lift0 c D L p)
  | 2 => upI (upI c D (c D - lift0 c D L p)) (D + 1) (c (D + 1) - lift1 c D L p)
  | _ => upI (upI (upI c D (c D - lift0 c D L p)) (D + 1) (c (D + 1) - lift1 c D L p)) (D + 2) (c (D + 2) - lift2 c D L p)
theorem liftC_next (c : Nat → Int) (D : Nat) (L p : Int) : liftC c D L p 1 = upI (liftC c D L p 0) D (c D - lift0 c D L p) ∧ liftC c D L p 2 = upI (liftC c D L p 1) (D + 1) (c (D + 1) - lift1 c D L p) ∧ liftC c D L p 3 = upI (liftC c D L p 2) (D + 2) (c (D + 2) - lift2 c D L p) := ⟨rfl, rfl, rfl⟩
theorem liftC_at (c : Nat → Int) (D : Nat) (L p : Int) : liftC c D L p 0 D = c D ∧ liftC c D L p 1 (D + 1) = c (D + 1) ∧ liftC c D L p 2 (D + 2) = c (D + 2) := by
  refine ⟨rfl, ?_, ?_⟩
  · show upI _ _ _ _ = _; unfold upI; rw [if_neg (by omega)]
  · show upI _ _ _ _ = _; unfold upI; rw [if_neg (by omega), if_neg (by omega)]
theorem sk_dye {x y k : Nat} (hx : x < 8) (hy : y < 8) (hk : k < 3) : sk (66 + y * 24 + x * 3 + k) = .i16 := by unfold sk; rw [if_neg (by omega), if_pos (by omega)]
/-- The place of a cell's first dye. -/
def dyeP (x y : Nat) : Nat := 66 + y * 24 + x * 3
theorem ok_dyes {c : Nat → Int} (h : okS c = true) {x y : Nat} (hx : x < 8) (hy : y < 8) : (0 ≤ c (dyeP x y) ∧ c (dyeP x y) ≤ 1000) ∧ (0 ≤ c (dyeP x y + 1) ∧ c (dyeP x y + 1) ≤ 1000) ∧ 0 ≤ c (dyeP x y + 2) ∧ c (dyeP x y + 2) ≤ 1000 := by
  have hok : OkS c := by simpa [okS] using h
  have := hok.2.2 y hy x hx
  unfold dyeP
  obtain ⟨g0, g1, g2, g3, g4⟩ := this
  exact ⟨by omega, by omega, by omega⟩
def askL (b o i f : Bool) : Int := if b then askB o i f else 1
noncomputable def liftV (c : Nat → Int) (a b d wt sh x y p : Int) : Value :=
  if okBrush a b d wt sh = true ∧ okS c = true ∧ isP c x y = true ∧ inB p 0 16 = true then
    .tuple #[.agg (kc sk 266 (liftC c (dyeP x.toNat y.toNat) (a + b + d) p 3)), .agg (brush (a + lift0 c (dyeP x.toNat y.toNat) (a + b + d) p) (b + lift1 c (dyeP x.toNat y.toNat) (a + b + d) p) (d + lift2 c (dyeP x.toNat y.toNat) (a + b + d) p) wt sh), .int .i64 0]
  else .tuple #[.agg (kc sk 266 fun _ => 0), .agg (brush 0 0 0 0 0), .int .i64 (askL (okBrush a b d wt sh) (okS c) (isP c x y) (inB p 0 16))]
theorem liftV_is (c : Nat → Int) (a b d wt sh x y p : Int) : ∃ (e : Nat → Int) (a1 b1 d1 wt1 sh1 z : Int), liftV c a b d wt sh x y p = .tuple #[.agg (kc sk 266 e), .agg (brush a1 b1 d1 wt1 sh1), .int .i64 z] := by
  unfold liftV; split <;> exact ⟨_, _, _, _, _, _, _, rfl⟩
theorem liftV_no {c : Nat → Int} {a b d wt sh x y p : Int} (h : ¬ (okBrush a b d wt sh = true ∧ okS c = true ∧ isP c x y = true ∧ inB p 0 16 = true)) : liftV c a b d wt sh x y p = .tuple #[.agg (kc sk 266 fun _ => 0), .agg (brush 0 0 0 0 0), .int .i64 (askL (okBrush a b d wt sh) (okS c) (isP c x y) (inB p 0 16))] := if_neg h
theorem liftV_yes {c : Nat → Int} {a b d wt sh p : Int} {x y : Nat} (h : okBrush a b d wt sh = true ∧ okS c = true ∧ isP c x y = true ∧ inB p 0 16 = true) : liftV c a b d wt sh x y p = .tuple #[.agg (kc sk 266 (liftC c (dyeP x y) (a + b + d) p 3)), .agg (brush (a + lift0 c (dyeP x y) (a + b + d) p) (b + lift1 c (dyeP x y) (a + b + d) p) (d + lift2 c (dyeP x y) (a + b + d) p) wt sh), .int .i64 0] := by
  unfold liftV; rw [if_pos h]; simp only [Int.toNat_natCast]
/-- What is known at the head of a round: k inks have gone over. -/
def LiftR (c : Nat → Int) (a b d wt sh : Int) (x y : Nat) (p : Int) (w : World) (k : Nat) (wr : World) : Prop := Below w.heap.size w wr ∧ w.heap.size + 5 ≤ wr.heap.size ∧ rowOf wr w.heap.size = kc sk 266 (liftC c (dyeP x y) (a + b + d) p k) ∧ frOf wr w.heap.size = (0, 0) ∧
  rowOf wr (w.heap.size + 1) = brush (if 0 < k then a + lift0 c (dyeP x y) (a + b + d) p else a) (if 1 < k then b + lift1 c (dyeP x y) (a + b + d) p else b) (if 2 < k then d + lift2 c (dyeP x y) (a + b + d) p else d) wt sh ∧ frOf wr (w.heap.size + 1) = (0, 0) ∧
  rowOf wr (w.heap.size + 1 + 1) = #[.int .i8 x, .int .i8 y] ∧ rowOf wr (w.heap.size + 1 + 1 + 1) = kc sk 266 (fun _ => 0) ∧ frOf wr (w.heap.size + 1 + 1 + 1) = (0, 0) ∧ rowOf wr (w.heap.size + 1 + 1 + 1 + 1) = brush 0 0 0 0 0 ∧ frOf wr (w.heap.size + 1 + 1 + 1 + 1) = (0, 0)
theorem l04Asked_any (p q : Nat) (c : Nat → Int) (hf : FitSheet c) (a b d wt sh : Int) (hb : FitBrush a b d wt sh) (x y : Int) (hx : -128 ≤ x ∧ x ≤ 127) (hy : -128 ≤ y ∧ y ≤ 127) (f : Bool) (w : World) (hr : rowOf w p = kc sk 266 c) (hp : p < w.heap.size) (hr2 : rowOf w q = brush a b d wt sh) (hq : q < w.heap.size) :
    Calls Try.prog 66 #[.pointer (some ⟨p, 0, none⟩), .pointer (some ⟨q, 0, none⟩), .agg #[.int .i8 x, .int .i8 y], .bool f] w fun e w' => e = .returned (.int .i64 (askL (okBrush a b d wt sh) (okS c) (isP c x y) f)) ∧ Below w.heap.size w w' := by
  have hO := fun w hr hp => l04Ok_any q a b d wt sh w hb hr hp
  have HA := Lib.hid (fun w hr hp => l01Asked_any p c hf x y hx hy f w hr hp)
  unfold askL
  generalize okBrush a b d wt sh = b0 at hO ⊢
  generalize askB (okS c) (isP c x y) f = z at HA
  have HO := Lib.hid hO
  clear hO
  cases b0
  · go_enter Try.func66, Try.ntmps66
    go_wp2_with (first | (go_at_call 61; refine (HO.out _ (by (go_simp <;> (intros; omega))) (by first | omega | (simp <;> omega))).mono ?_; rintro e w1 ⟨rfl, hb1⟩; have r1 := keep_rowA hb1; have f1 := keep_frA hb1; have s1 := hb1.size; (try simp only [World.size_alloc, World.size_setCell, setRow_size, World.size_drew, size_drewNm] at r1 f1 s1)) | (go_at_call 110; refine (HA.out _ (by (go_simp <;> (intros; omega))) (by first | omega | (simp <;> omega))).mono ?_; rintro e w1 ⟨rfl, hb1⟩; have r1 := keep_rowA hb1; have f1 := keep_frA hb1; have s1 := hb1.size; (try simp only [World.size_alloc, World.size_setCell, setRow_size, World.size_drew, size_drewNm] at r1 f1 s1)))
    go_ret
    exact ⟨rfl, by repeat' (first | with_reducible exact Below.refl _ _ | with_reducible assumption | with_reducible refine Below.drew ?_ | with_reducible refine Below.drewN ?_ _ | with_reducible refine Below.alloc ?_ ?_ _ | with_reducible refine Below.setCell ?_ ?_ _ | with_reducible refine Below.setRow ?_ ?_ _ | with_reducible refine below_step (by assumption) ?_ ?_ | (show (_ : Nat) ≤ _; first | omega | (simp <;> omega)))⟩
  · go_enter Try.func66, Try.ntmps66
    go_wp2_with (first | (go_at_call 61; refine (HO.out _ (by (go_simp <;> (intros; omega))) (by first | omega | (simp <;> omega))).mono ?_; rintro e w1 ⟨rfl, hb1⟩; have r1 := keep_rowA hb1; have f1 := keep_frA hb1; have s1 := hb1.size; (try simp only [World.size_alloc, World.size_setCell, setRow_size, World.size_drew, size_drewNm] at r1 f1 s1)) | (go_at_call 110; refine (HA.out _ (by (go_simp <;> (intros; omega))) (by first | omega | (simp <;> omega))).mono ?_; rintro e w1 ⟨rfl, hb1⟩; have r1 := keep_rowA hb1; have f1 := keep_frA hb1; have s1 := hb1.size; (try simp only [World.size_alloc, World.size_setCell, setRow_size, World.size_drew, size_drewNm] at r1 f1 s1)))
    go_ret
    exact ⟨rfl, by repeat' (first | with_reducible exact Below.refl _ _ | with_reducible assumption | with_reducible refine Below.drew ?_ | with_reducible refine Below.drewN ?_ _ | with_reducible refine Below.alloc ?_ ?_ _ | with_reducible refine Below.setCell ?_ ?_ _ | with_reducible refine Below.setRow ?_ ?_ _ | with_reducible refine below_step (by assumption) ?_ ?_ | (show (_ : Nat) ≤ _; first | omega | (simp <;> omega)))⟩
theorem brushCode_any (c : Nat → Int) (hf : FitSheet c) (a b d wt sh : Int) (hb : FitBrush a b d wt sh) (i : Bool) (w : World) :
    Calls Try.prog 73 #[.agg (kc sk 266 c), .agg (brush a b d wt sh), .bool i] w fun e w' => e = .returned (.int .i64 (askL (okBrush a b d wt sh) (okS c) i true)) ∧ Below w.heap.size w w' := by
  have hO := fun w => iValidBrush_any a b d wt sh w hb
  have hS := fun w => iValidSheet_any c hf w
  generalize okBrush a b d wt sh = b0 at hO ⊢
  generalize okS c = b1 at hS ⊢
  have HO := Lib.hid hO
  have HS := Lib.hid hS
  clear hO hS
  cases b0 <;> cases b1 <;> cases i
  all_goals
    go_enter Try.func73, Try.ntmps73
    go_wp2_with (first | (go_at_call 108; refine (HS.out _).mono ?_; rintro e w1 ⟨rfl, hb1⟩; have r1 := keep_rowA hb1; have f1 := keep_frA hb1; have s1 := hb1.size; (try simp only [World.size_alloc, World.size_setCell, setRow_size, World.size_drew, size_drewNm] at r1 f1 s1)) | (go_at_call 63; refine (HO.out _).mono ?_; rintro e w1 ⟨rfl, hb1⟩; have r1 := keep_rowA hb1; have f1 := keep_frA hb1; have s1 := hb1.size; (try simp only [World.size_alloc, World.size_setCell, setRow_size, World.size_drew, size_drewNm] at r1 f1 s1)))
    go_ret
    exact ⟨rfl, by repeat' (first | with_reducible exact Below.refl _ _ | with_reducible assumption | with_reducible refine Below.drew ?_ | with_reducible refine Below.drewN ?_ _ | with_reducible refine Below.alloc ?_ ?_ _ | with_reducible refine Below.setCell ?_ ?_ _ | with_reducible refine Below.setRow ?_ ?_ _ | with_reducible refine below_step (by assumption) ?_ ?_ | (show (_ : Nat) ≤ _; first | omega | (simp <;> omega)))⟩
theorem l00Min_any (a b : Int) (w : World) : Calls Try.prog 68 #[.int .i64 a, .int .i64 b] w fun e w' => e = .returned (.int .i64 (mn a b)) ∧ w = w' := by
  by_cases h : a < b
  all_goals
    go_enter Try.func68, Try.ntmps68
    go_wp2
    go_ret
    exact ⟨congrArg (fun z => Ending.returned (Value.int .i64 z)) (by unfold mn; split <;> omega), rfl⟩
end Go.Proofs.Ytigiooollonmjaa
