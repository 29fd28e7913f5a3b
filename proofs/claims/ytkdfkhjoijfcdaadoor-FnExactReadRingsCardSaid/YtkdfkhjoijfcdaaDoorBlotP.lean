/- Ink goes over from a sheet to another one: the numbers. -/
import Derived.Test.YtkdfkhjoijfcdaaDoorLiftV
import Derived.Test.YtkdfkhjoijfcdaaDoorCell
import Derived.Test.YtkdfkhjoijfcdaaDoorSheetOk
namespace Go.Proofs.YtkdfkhjoijfcdaaDoor
open Go.RowKit
set_option linter.unusedVariables false
set_option linter.unusedSimpArgs false
set_option maxRecDepth 100000
/-- Two sheets, and how much has gone over. -/
structure BS where
  c : Nat → Int
  d : Nat → Int
  m : Int
def goes (p : Int) (D E : Nat) (s : BS) : Int := mn (s.c D * p / 16) (1000 - s.d E)
def bl1 (p : Int) (D E : Nat) (s : BS) : BS := ⟨upI s.c D (s.c D - goes p D E s), upI s.d E (s.d E + goes p D E s), s.m + goes p D E s⟩
/-- So many inks of a cell. -/
def blK (p : Int) (D E : Nat) (s : BS) : Nat → BS
  | 0 => s
  | k + 1 => bl1 p (D + k) (E + k) (blK p D E s k)
open Classical in
noncomputable def blC (p : Int) (x x2 y : Nat) (s : BS) : BS := if s.c (2 + y * 8 + x) = 0 ∨ waxS s.d x2 y = true then s else blK p (dyeP x y) (dyeP x2 y) s 3
/-- So many cells of sheets so wide. -/
noncomputable def blN (p : Int) (W : Nat) (s : BS) : Nat → BS
  | 0 => s
  | n + 1 => blC p (n % W) (W - 1 - n % W) (n / W) (blN p W s n)
/-- So many rounds. -/
noncomputable def blR (p : Int) (W n : Nat) (s : BS) : Nat → BS
  | 0 => s
  | k + 1 => blN p W (blR p W n s k) n
/-- What holds on the way: the sheets' sides, their dyes, how much has gone over at most. -/
structure GoodB (W H : Nat) (M : Nat) (s : BS) : Prop where
  fc : FitSheet s.c
  fd : FitSheet s.d
  w0 : s.c 0 = W
  h0 : s.c 1 = H
  dc : ∀ j, 66 ≤ j → j < 258 → 0 ≤ s.c j ∧ s.c j ≤ 1000
  dd : ∀ j, 66 ≤ j → j < 258 → 0 ≤ s.d j ∧ s.d j ≤ 1000
  wet : ∀ j, 2 ≤ j → j < 66 → 0 ≤ s.c j
  m0 : 0 ≤ s.m ∧ s.m ≤ M
theorem fit_up {c : Nat → Int} (h : FitSheet c) {j : Nat} (h1 : 66 ≤ j) (h2 : j < 258) {v : Int} (hv : 0 ≤ v ∧ v ≤ 1000) : FitSheet (upI c j v) where
  side := fun i hi => by unfold upI; rw [if_neg (by omega)]; exact h.side i hi
  cell := fun i a b => by unfold upI; split; omega; exact h.cell i a b
  wax := fun i a b => by unfold upI; rw [if_neg (by omega)]; exact h.wax i a b
theorem goes_in {p : Int} {D E : Nat} {W H M : Nat} {s : BS} (hp : 1 ≤ p ∧ p ≤ 8) (hD : 66 ≤ D ∧ D < 258) (hE : 66 ≤ E ∧ E < 258) (h : GoodB W H M s) : 0 ≤ goes p D E s ∧ goes p D E s ≤ s.c D ∧ goes p D E s ≤ 1000 - s.d E := by
  have a := h.dc D hD.1 hD.2
  have b := h.dd E hE.1 hE.2
  exact mn_in (by have := mul_part a (p := p) (by omega); omega) (mul_part a (p := p) (by omega)).2.2 (by omega)
theorem good1 {p : Int} {D E : Nat} {W H M : Nat} {s : BS} (hp : 1 ≤ p ∧ p ≤ 8) (hD : 66 ≤ D ∧ D < 258) (hE : 66 ≤ E ∧ E < 258) (h : GoodB W H M s) : GoodB W H (M + 1000) (bl1 p D E s) := by
  have g := goes_in hp hD hE h
  have a := h.dc D hD.1 hD.2
  have b := h.dd E hE.1 hE.2
  have hm := h.m0
  refine ⟨fit_up h.fc hD.1 hD.2 (by omega), fit_up h.fd hE.1 hE.2 (by omega), ?_, ?_, ?_, ?_, ?_, ?_⟩
  · show upI _ _ _ 0 = _; unfold upI; rw [if_neg (by omega)]; exact h.w0
  · show upI _ _ _ 1 = _; unfold upI; rw [if_neg (by omega)]; exact h.h0
  · intro j h1 h2; show 0 ≤ upI _ _ _ j ∧ upI _ _ _ j ≤ 1000; unfold upI; split; omega; exact h.dc j h1 h2
  · intro j h1 h2; show 0 ≤ upI _ _ _ j ∧ upI _ _ _ j ≤ 1000; unfold upI; split; omega; exact h.dd j h1 h2
  · intro j h1 h2; show 0 ≤ upI _ _ _ j; unfold upI; rw [if_neg (by omega)]; exact h.wet j h1 h2
  · show 0 ≤ s.m + goes p D E s ∧ s.m + goes p D E s ≤ ((M + 1000 : Nat) : Int); omega
theorem goodK {p : Int} {D E : Nat} {W H M : Nat} {s : BS} (hp : 1 ≤ p ∧ p ≤ 8) (hD : 66 ≤ D ∧ D < 256) (hE : 66 ≤ E ∧ E < 256) (h : GoodB W H M s) (k : Nat) (hk : k ≤ 3) : GoodB W H (M + k * 1000) (blK p D E s k) := by
  induction k with
  | zero => exact h
  | succ k ih =>
    have := good1 hp (D := D + k) (E := E + k) (by omega) (by omega) (ih (by omega))
    have e : M + (k + 1) * 1000 = M + k * 1000 + 1000 := by omega
    rw [e]; exact this
theorem GoodB.le {W H M M' : Nat} {s : BS} (h : GoodB W H M s) (hM : M ≤ M') : GoodB W H M' s := ⟨h.fc, h.fd, h.w0, h.h0, h.dc, h.dd, h.wet, by have := h.m0; omega⟩
theorem dyeP_in {x y : Nat} (hx : x < 8) (hy : y < 8) : 66 ≤ dyeP x y ∧ dyeP x y < 256 := by unfold dyeP; omega
theorem goodC {p : Int} {x x2 y : Nat} {W H M : Nat} {s : BS} (hp : 1 ≤ p ∧ p ≤ 8) (hx : x < 8) (hx2 : x2 < 8) (hy : y < 8) (h : GoodB W H M s) : GoodB W H (M + 3000) (blC p x x2 y s) := by
  unfold blC
  split
  · exact h.le (by omega)
  · exact (goodK hp (dyeP_in hx hy) (dyeP_in hx2 hy) h 3 (Nat.le_refl _)).le (by omega)
theorem goodN {p : Int} {W H M : Nat} {s : BS} (hp : 1 ≤ p ∧ p ≤ 8) (W0 : 0 < W) (W8 : W ≤ 8) (H8 : H ≤ 8) (h : GoodB W H M s) (n : Nat) (hn : n ≤ H * W) : GoodB W H (M + n * 3000) (blN p W s n) := by
  induction n with
  | zero => exact h
  | succ n ih =>
    have h1 := Nat.mod_lt n W0
    have h2 : n / W < H := (Nat.div_lt_iff_lt_mul W0).2 (by omega)
    have := goodC (x := n % W) (x2 := W - 1 - n % W) (y := n / W) hp (by omega) (by omega) (by omega) (ih (by omega))
    have e : M + (n + 1) * 3000 = M + n * 3000 + 3000 := by omega
    rw [e]; exact this
theorem goodR {p : Int} {W H M n : Nat} {s : BS} (hp : 1 ≤ p ∧ p ≤ 8) (W0 : 0 < W) (W8 : W ≤ 8) (H8 : H ≤ 8) (h : GoodB W H M s) (hn : n ≤ H * W) (hn64 : n ≤ 64) (k : Nat) : GoodB W H (M + k * 192000) (blR p W n s k) := by
  induction k with
  | zero => exact h
  | succ k ih =>
    have := (goodN hp W0 W8 H8 ih n hn).le (M' := M + k * 192000 + 192000) (by omega)
    have e : M + (k + 1) * 192000 = M + k * 192000 + 192000 := by omega
    rw [e]; exact this
theorem good_start {c d : Nat → Int} (hc : FitSheet c) (hd : FitSheet d) (oc : okS c = true) (od : okS d = true) {W H : Nat} (hW : c 0 = W) (hH : c 1 = H) : GoodB W H 0 ⟨c, d, 0⟩ := by
  have cells : ∀ e : Nat → Int, okS e = true → ∀ j, 66 ≤ j → j < 258 → 0 ≤ e j ∧ e j ≤ 1000 := by
    intro e he j h1 h2
    obtain ⟨g0, g1, g2⟩ := ok_dyes he (x := (j - 66) % 24 / 3) (y := (j - 66) / 24) (by omega) (by omega)
    have hj : (j - 66) % 3 = 0 ∨ (j - 66) % 3 = 1 ∨ (j - 66) % 3 = 2 := by omega
    unfold dyeP at g0 g1 g2
    rcases hj with h | h | h
    · rwa [show 66 + (j - 66) / 24 * 24 + (j - 66) % 24 / 3 * 3 = j by omega] at g0
    · rwa [show 66 + (j - 66) / 24 * 24 + (j - 66) % 24 / 3 * 3 + 1 = j by omega] at g1
    · rwa [show 66 + (j - 66) / 24 * 24 + (j - 66) % 24 / 3 * 3 + 2 = j by omega] at g2
  refine ⟨hc, hd, hW, hH, cells c oc, cells d od, ?_, Int.le_refl _, Int.le_refl _⟩
  intro j h1 h2
  have hok : OkS c := by simpa [okS] using oc
  have := hok.2.2 ((j - 2) / 8) (by omega) ((j - 2) % 8) (by omega)
  obtain ⟨g0, g1, g2, g3, g4⟩ := this
  have e : 2 + (j - 2) / 8 * 8 + (j - 2) % 8 = j := by omega
  rw [e] at g1
  show 0 ≤ c j
  first | exact g1.1 | (rw [e] at g0; exact g0.1) | omega
/-- How much had gone over before makes no difference to what goes over. -/
theorem blK_shift (p : Int) (D E : Nat) (c d : Nat → Int) (m m2 : Int) (k : Nat) : (blK p D E ⟨c, d, m + m2⟩ k).c = (blK p D E ⟨c, d, m2⟩ k).c ∧ (blK p D E ⟨c, d, m + m2⟩ k).d = (blK p D E ⟨c, d, m2⟩ k).d ∧ (blK p D E ⟨c, d, m + m2⟩ k).m = m + (blK p D E ⟨c, d, m2⟩ k).m := by
  induction k with
  | zero => exact ⟨rfl, rfl, rfl⟩
  | succ k ih =>
    obtain ⟨h1, h2, h3⟩ := ih
    have hg : goes p (D + k) (E + k) (blK p D E ⟨c, d, m + m2⟩ k) = goes p (D + k) (E + k) (blK p D E ⟨c, d, m2⟩ k) := by unfold goes; rw [h1, h2]
    refine ⟨?_, ?_, ?_⟩
    · show upI _ _ _ = upI _ _ _; rw [h1, hg]
    · show upI _ _ _ = upI _ _ _; rw [h2, hg]
    · show _ + _ = _ + (_ + _); rw [h3, hg, Int.add_assoc]
theorem blN_shift (p : Int) (W : Nat) (c d : Nat → Int) (m : Int) (n : Nat) : (blN p W ⟨c, d, m⟩ n).c = (blN p W ⟨c, d, 0⟩ n).c ∧ (blN p W ⟨c, d, m⟩ n).d = (blN p W ⟨c, d, 0⟩ n).d ∧ (blN p W ⟨c, d, m⟩ n).m = m + (blN p W ⟨c, d, 0⟩ n).m := by
  induction n with
  | zero => exact ⟨rfl, rfl, (Int.add_zero _).symm⟩
  | succ n ih =>
    obtain ⟨h1, h2, h3⟩ := ih
    show (blC p _ _ _ (blN p W ⟨c, d, m⟩ n)).c = (blC p _ _ _ (blN p W ⟨c, d, 0⟩ n)).c ∧ (blC p _ _ _ (blN p W ⟨c, d, m⟩ n)).d = (blC p _ _ _ (blN p W ⟨c, d, 0⟩ n)).d ∧ (blC p _ _ _ (blN p W ⟨c, d, m⟩ n)).m = m + (blC p _ _ _ (blN p W ⟨c, d, 0⟩ n)).m
    generalize blN p W ⟨c, d, m⟩ n = a at *
    generalize blN p W ⟨c, d, 0⟩ n = b at *
    obtain ⟨ac, ad, am⟩ := a
    obtain ⟨bc, bd, bm⟩ := b
    simp only at h1 h2 h3
    subst h1 h2 h3
    unfold blC
    split
    · exact ⟨rfl, rfl, rfl⟩
    · exact blK_shift p _ _ _ _ m bm 3
/-- What a call of one round leaves of the world. -/
def Two (p q B : Nat) (w w' : World) (s : BS) : Prop := rowOf w' p = kc sk 266 s.c ∧ rowOf w' q = kc sk 266 s.d ∧ frOf w' p = (0, 0) ∧ frOf w' q = (0, 0) ∧ w.heap.size ≤ w'.heap.size ∧ (∀ b, b ≠ p → b ≠ q → b < w.heap.size → rowOf w' b = rowOf w b ∧ frOf w' b = frOf w b) ∧ Below B w w'
/-- What is known at the head of a round over cells. -/
def BlR (p q B : Nat) (w w1 : World) (g : Nat) (s : BS) (wr : World) : Prop := Two p q B w wr s ∧ w1.heap.size ≤ wr.heap.size ∧ rowOf wr g = rowOf w1 g
end Go.Proofs.YtkdfkhjoijfcdaaDoor
