/- Folds pressed upon a sheet: the numbers. No program. -/
import Derived.Test.YtkdfkhjoijfcdaaDoorBlotP
import Derived.Test.YtkdfkhjoijfcdaaDoorThatV
import Derived.Test.YtkdfkhjoijfcdaaDoorFold
import Derived.Test.YtkdfkhjoijfcdaaDoorPicsV
namespace Go.Proofs.YtkdfkhjoijfcdaaDoor
open Go.RowKit
set_option linter.unusedVariables false
set_option linter.unusedSimpArgs false
set_option maxRecDepth 100000
/-! ### which cells are chosen, one behind the other -/
def chos (U : Nat → Bool) : Nat → List Nat
  | 0 => []
  | k + 1 => if U k = true then chos U k ++ [k] else chos U k
theorem chos_yes {U : Nat → Bool} {k : Nat} (h : U k = true) : chos U (k + 1) = chos U k ++ [k] := if_pos h
theorem chos_no {U : Nat → Bool} {k : Nat} (h : U k = false) : chos U (k + 1) = chos U k := if_neg (by simp [h])
theorem chos_len (U : Nat → Bool) : ∀ n, (chos U n).length = selN U n
  | 0 => rfl
  | k + 1 => by
    have := chos_len U k
    rcases Bool.eq_false_or_eq_true (U k) with e | e
    · rw [chos_yes e, (sel_yes (W := 0) e).2, List.length_append, this]; rfl
    · rw [chos_no e, (sel_no (W := 0) e).2, this]
theorem chos_in (U : Nat → Bool) : ∀ n, ∀ k ∈ chos U n, k < n ∧ U k = true
  | 0, k, h => by cases h
  | n + 1, k, h => by
    rcases Bool.eq_false_or_eq_true (U n) with e | e
    · rw [chos_yes e, List.mem_append] at h
      rcases h with h | h
      · have := chos_in U n k h; exact ⟨by omega, this.2⟩
      · simp at h; subst h; exact ⟨by omega, e⟩
    · rw [chos_no e] at h
      have := chos_in U n k h; exact ⟨by omega, this.2⟩
def chE (U : Nat → Bool) (n i : Nat) : Nat := (chos U n).getD i 0
theorem chE_at {U : Nat → Bool} {n i : Nat} (h : i < selN U n) : (chos U n)[i]? = some (chE U n i) := by
  rw [← chos_len U n] at h
  unfold chE
  rw [List.getD_eq_getElem?_getD, List.getElem?_eq_getElem h]; rfl
theorem chE_in {U : Nat → Bool} {n i : Nat} (h : i < selN U n) : chE U n i < n ∧ U (chE U n i) = true :=
  chos_in U n _ (List.mem_of_getElem? (chE_at h))
/-! ### the pairs of a fold -/
def ptX (a : Int) (d : Bool) (W k : Nat) : Int := if d then ((k % W : Nat) : Int) else 2 * a - 1 - ((k % W : Nat) : Int)
def ptY (a : Int) (d : Bool) (W k : Nat) : Int := if d then 2 * a - 1 - ((k / W : Nat) : Int) else ((k / W : Nat) : Int)
def firstB (a : Int) (d : Bool) (x y : Int) : Bool := if d then decide (y < a) else decide (x < a)
def pairU (c : Nat → Int) (a : Int) (d : Bool) (W k : Nat) : Bool := firstB a d ((k % W : Nat) : Int) ((k / W : Nat) : Int) && isP c (ptX a d W k) (ptY a d W k) && !(waxS c (k % W) (k / W)) && !(waxS c (ptX a d W k).toNat (ptY a d W k).toNat)
def prL (U : Nat → Bool) (a : Int) (d : Bool) (W : Nat) : Nat → List Value
  | 0 => []
  | k + 1 => if U k = true then prL U a d W k ++ [.int .i8 ((k % W : Nat) : Int), .int .i8 ((k / W : Nat) : Int), .int .i8 (ptX a d W k), .int .i8 (ptY a d W k)] else prL U a d W k
theorem prL_yes {U : Nat → Bool} {a : Int} {d : Bool} {W k : Nat} (h : U k = true) : prL U a d W (k + 1) = prL U a d W k ++ [.int .i8 ((k % W : Nat) : Int), .int .i8 ((k / W : Nat) : Int), .int .i8 (ptX a d W k), .int .i8 (ptY a d W k)] ∧ selN U (k + 1) = selN U k + 1 := ⟨if_pos h, (sel_yes (W := 0) h).2⟩
theorem prL_no {U : Nat → Bool} {a : Int} {d : Bool} {W k : Nat} (h : U k = false) : prL U a d W (k + 1) = prL U a d W k ∧ selN U (k + 1) = selN U k := ⟨if_neg (by simp [h]), (sel_no (W := 0) h).2⟩
theorem prL_len (U : Nat → Bool) (a : Int) (d : Bool) (W : Nat) : ∀ n, (prL U a d W n).length = selN U n * 4
  | 0 => rfl
  | k + 1 => by
    have := prL_len U a d W k
    rcases Bool.eq_false_or_eq_true (U k) with e | e
    · rw [(prL_yes e).1, (prL_yes (a := a) (d := d) (W := W) e).2, List.length_append, this, Nat.succ_mul]; rfl
    · rw [(prL_no e).1, (prL_no (a := a) (d := d) (W := W) e).2, this]
theorem prL_at (U : Nat → Bool) (a : Int) (d : Bool) (W : Nat) : ∀ n i, i < selN U n → ∀ k, (chos U n)[i]? = some k → (prL U a d W n)[i * 4]? = some (.int .i8 ((k % W : Nat) : Int)) ∧ (prL U a d W n)[i * 4 + 1]? = some (.int .i8 ((k / W : Nat) : Int)) ∧ (prL U a d W n)[i * 4 + 2]? = some (.int .i8 (ptX a d W k)) ∧ (prL U a d W n)[i * 4 + 3]? = some (.int .i8 (ptY a d W k))
  | 0, i, h, k, hk => absurd h (by show ¬ i < 0; omega)
  | n + 1, i, h, k, hk => by
    have hl := prL_len U a d W n
    have hc := chos_len U n
    rcases Bool.eq_false_or_eq_true (U n) with e | e
    · rw [(prL_yes e).1]
      rw [(sel_yes (W := 0) e).2] at h
      rw [chos_yes e] at hk
      by_cases hi : i < selN U n
      · rw [List.getElem?_append_left (by omega)] at hk
        have ih := prL_at U a d W n i hi k hk
        rw [List.getElem?_append_left (by omega), List.getElem?_append_left (by omega), List.getElem?_append_left (by omega), List.getElem?_append_left (by omega)]
        exact ih
      · have hi2 : i = selN U n := by omega
        subst hi2
        rw [List.getElem?_append_right (by omega), hc, Nat.sub_self] at hk
        simp at hk
        subst hk
        rw [List.getElem?_append_right (by omega), List.getElem?_append_right (by omega), List.getElem?_append_right (by omega), List.getElem?_append_right (by omega), hl, Nat.sub_self, show selN U n * 4 + 1 - selN U n * 4 = 1 by omega, show selN U n * 4 + 2 - selN U n * 4 = 2 by omega, show selN U n * 4 + 3 - selN U n * 4 = 3 by omega]
        exact ⟨rfl, rfl, rfl, rfl⟩
    · rw [(prL_no e).1]
      rw [(sel_no (W := 0) e).2] at h
      rw [chos_no e] at hk
      exact prL_at U a d W n i h k hk
/-- A pair's second cell lies behind the first one. -/
theorem pair_at {c : Nat → Int} {a : Int} {d : Bool} {W H k : Nat} (hW : c 0 = W) (hH : c 1 = H) (W0 : 0 < W) (W8 : W ≤ 8) (H8 : H ≤ 8) (hk : k < H * W) (hU : pairU c a d W k = true) :
    ∃ x2 y2 : Nat, ptX a d W k = (x2 : Int) ∧ ptY a d W k = (y2 : Int) ∧ x2 < 8 ∧ y2 < 8 ∧ ((k % W < x2 ∧ k / W = y2) ∨ (k % W = x2 ∧ k / W < y2)) := by
  obtain ⟨hx, hy, hxW, hyH⟩ := cell_at W0 W8 H8 hk
  unfold pairU at hU
  simp only [Bool.and_eq_true] at hU
  obtain ⟨⟨⟨h1, h2⟩, -⟩, -⟩ := hU
  unfold isP at h2
  simp only [Bool.and_eq_true, inB_true] at h2
  obtain ⟨⟨h3, h4⟩, h5, h6⟩ := h2
  rw [hW] at h4
  rw [hH] at h6
  obtain ⟨x2, hx2⟩ : ∃ x2 : Nat, ptX a d W k = x2 := ⟨(ptX a d W k).toNat, by omega⟩
  obtain ⟨y2, hy2⟩ : ∃ y2 : Nat, ptY a d W k = y2 := ⟨(ptY a d W k).toNat, by omega⟩
  refine ⟨x2, y2, hx2, hy2, by omega, by omega, ?_⟩
  unfold firstB at h1
  unfold ptX at hx2
  unfold ptY at hy2
  cases d <;> simp at h1 hx2 hy2 <;> omega
/-! ### one fold pressed -/
structure PS where
  c : Nat → Int
  m : Int
def mvI (p a b : Int) : Int := if b < a then (a - b) * p / 16 else -((b - a) * p / 16)
def absI (a : Int) : Int := if a < 0 then -a else a
theorem mvI_in {p a b : Int} (hp : 1 ≤ p ∧ p ≤ 8) (ha : 0 ≤ a ∧ a ≤ 1000) (hb : 0 ≤ b ∧ b ≤ 1000) : (b < a → 0 ≤ mvI p a b ∧ mvI p a b ≤ a - b) ∧ (a ≤ b → a - b ≤ mvI p a b ∧ mvI p a b ≤ 0) := by
  unfold mvI
  constructor
  · intro h
    rw [if_pos h]
    have := mul_part (v := a - b) (p := p) (by omega) (by omega)
    omega
  · intro h
    rw [if_neg (by omega)]
    have := mul_part (v := b - a) (p := p) (by omega) (by omega)
    omega
def stops (p : Int) (D E wa wb : Nat) (s : PS) : Prop := (0 < mvI p (s.c D) (s.c E) ∧ s.c wa = 0) ∨ (mvI p (s.c D) (s.c E) < 0 ∧ s.c wb = 0)
def prU (p : Int) (D E : Nat) (s : PS) : Nat → Int := upI (upI s.c D (s.c D - mvI p (s.c D) (s.c E))) E (s.c E + mvI p (s.c D) (s.c E))
open Classical in
noncomputable def pr1 (p : Int) (D E wa wb : Nat) (s : PS) : PS := if stops p D E wa wb s then s else ⟨prU p D E s, s.m + absI (mvI p (s.c D) (s.c E))⟩
noncomputable def prK (p : Int) (D E wa wb : Nat) (s : PS) : Nat → PS
  | 0 => s
  | k + 1 => pr1 p (D + k) (E + k) wa wb (prK p D E wa wb s k)
def prW (p : Int) (wa wb : Nat) (s : PS) : PS := ⟨prU p wa wb s, s.m⟩
def wetP (x y : Nat) : Nat := 2 + y * 8 + x
noncomputable def prC (p : Int) (x y x2 y2 : Nat) (s : PS) : PS := prW p (wetP x y) (wetP x2 y2) (prK p (dyeP x y) (dyeP x2 y2) (wetP x y) (wetP x2 y2) s 3)
/-- So many of the pairs. -/
noncomputable def prN (p a : Int) (d : Bool) (W n : Nat) (U : Nat → Bool) (s : PS) : Nat → PS
  | 0 => s
  | i + 1 => prC p (chE U n i % W) (chE U n i / W) (ptX a d W (chE U n i)).toNat (ptY a d W (chE U n i)).toNat (prN p a d W n U s i)
noncomputable def prF (c : Nat → Int) (a : Int) (d : Bool) (p : Int) (W H : Nat) : PS := prN p a d W (H * W) (pairU c a d W) ⟨c, 0⟩ (selN (pairU c a d W) (H * W))
/-- What holds on the way. -/
structure GoodP (W H M : Nat) (s : PS) : Prop where
  fc : FitSheet s.c
  w0 : s.c 0 = W
  h0 : s.c 1 = H
  dy : ∀ j, 66 ≤ j → j < 258 → 0 ≤ s.c j ∧ s.c j ≤ 1000
  wt : ∀ j, 2 ≤ j → j < 66 → 0 ≤ s.c j ∧ s.c j ≤ 1000
  m0 : 0 ≤ s.m ∧ s.m ≤ M
theorem GoodP.le {W H M M' : Nat} {s : PS} (h : GoodP W H M s) (hM : M ≤ M') : GoodP W H M' s := ⟨h.fc, h.w0, h.h0, h.dy, h.wt, by have := h.m0; omega⟩
theorem GoodP.cell {W H M : Nat} {s : PS} (h : GoodP W H M s) {j : Nat} (h1 : 2 ≤ j) (h2 : j < 258) : 0 ≤ s.c j ∧ s.c j ≤ 1000 := by
  by_cases hj : j < 66
  · exact h.wt j h1 hj
  · exact h.dy j (by omega) h2
theorem fit_upP {c : Nat → Int} (h : FitSheet c) {j : Nat} (h1 : 2 ≤ j) (h2 : j < 258) {v : Int} (hv : 0 ≤ v ∧ v ≤ 1000) : FitSheet (upI c j v) where
  side := fun i hi => by unfold upI; rw [if_neg (by omega)]; exact h.side i hi
  cell := fun i a b => by unfold upI; split; omega; exact h.cell i a b
  wax := fun i a b => by unfold upI; rw [if_neg (by omega)]; exact h.wax i a b
theorem goodU {p : Int} {D E W H M : Nat} {s : PS} (hp : 1 ≤ p ∧ p ≤ 8) (hD : 2 ≤ D ∧ D < 258) (hE : 2 ≤ E ∧ E < 258) (h : GoodP W H M s) {m : Int} {M' : Nat} (hm : 0 ≤ m ∧ m ≤ M') : GoodP W H M' ⟨prU p D E s, m⟩ := by
  have a := h.cell hD.1 hD.2
  have b := h.cell hE.1 hE.2
  have g := mvI_in hp a b
  have v1 : 0 ≤ s.c D - mvI p (s.c D) (s.c E) ∧ s.c D - mvI p (s.c D) (s.c E) ≤ 1000 := by
    by_cases hh : s.c E < s.c D
    · have := g.1 hh; omega
    · have := g.2 (by omega); omega
  have v2 : 0 ≤ s.c E + mvI p (s.c D) (s.c E) ∧ s.c E + mvI p (s.c D) (s.c E) ≤ 1000 := by
    by_cases hh : s.c E < s.c D
    · have := g.1 hh; omega
    · have := g.2 (by omega); omega
  unfold prU
  generalize s.c D - mvI p (s.c D) (s.c E) = u at *
  generalize s.c E + mvI p (s.c D) (s.c E) = v at *
  refine ⟨fit_upP (fit_upP h.fc hD.1 hD.2 v1) hE.1 hE.2 v2, ?_, ?_, ?_, ?_, hm⟩
  · show upI (upI _ _ _) _ _ 0 = _; unfold upI; rw [if_neg (by omega), if_neg (by omega)]; exact h.w0
  · show upI (upI _ _ _) _ _ 1 = _; unfold upI; rw [if_neg (by omega), if_neg (by omega)]; exact h.h0
  · intro j h1 h2; show 0 ≤ upI (upI _ _ _) _ _ j ∧ upI (upI _ _ _) _ _ j ≤ 1000; unfold upI; split; omega; split; omega; exact h.dy j h1 h2
  · intro j h1 h2; show 0 ≤ upI (upI _ _ _) _ _ j ∧ upI (upI _ _ _) _ _ j ≤ 1000; unfold upI; split; omega; split; omega; exact h.wt j h1 h2
theorem abs_in {p a b : Int} (hp : 1 ≤ p ∧ p ≤ 8) (ha : 0 ≤ a ∧ a ≤ 1000) (hb : 0 ≤ b ∧ b ≤ 1000) : 0 ≤ absI (mvI p a b) ∧ absI (mvI p a b) ≤ 1000 := by
  have g := mvI_in hp ha hb
  unfold absI
  by_cases hh : b < a
  · have := g.1 hh; split <;> omega
  · have := g.2 (by omega); split <;> omega
theorem goodP1 {p : Int} {D E wa wb W H M : Nat} {s : PS} (hp : 1 ≤ p ∧ p ≤ 8) (hD : 2 ≤ D ∧ D < 258) (hE : 2 ≤ E ∧ E < 258) (h : GoodP W H M s) : GoodP W H (M + 1000) (pr1 p D E wa wb s) := by
  unfold pr1
  split
  · exact h.le (by omega)
  · have := abs_in hp (h.cell hD.1 hD.2) (h.cell hE.1 hE.2)
    have hm := h.m0
    exact goodU hp hD hE h (by omega)
theorem goodPK {p : Int} {D E wa wb W H M : Nat} {s : PS} (hp : 1 ≤ p ∧ p ≤ 8) (hD : 66 ≤ D ∧ D < 256) (hE : 66 ≤ E ∧ E < 256) (h : GoodP W H M s) (k : Nat) (hk : k ≤ 3) : GoodP W H (M + k * 1000) (prK p D E wa wb s k) := by
  induction k with
  | zero => exact h
  | succ k ih =>
    have := goodP1 hp (D := D + k) (E := E + k) (wa := wa) (wb := wb) (by omega) (by omega) (ih (by omega))
    have e : M + (k + 1) * 1000 = M + k * 1000 + 1000 := by omega
    rw [e]; exact this
theorem wetP_in {x y : Nat} (hx : x < 8) (hy : y < 8) : 2 ≤ wetP x y ∧ wetP x y < 66 := by unfold wetP; omega
theorem goodPC {p : Int} {x y x2 y2 W H M : Nat} {s : PS} (hp : 1 ≤ p ∧ p ≤ 8) (hx : x < 8) (hy : y < 8) (hx2 : x2 < 8) (hy2 : y2 < 8) (h : GoodP W H M s) : GoodP W H (M + 3000) (prC p x y x2 y2 s) := by
  unfold prC prW
  have a := wetP_in hx hy
  have b := wetP_in hx2 hy2
  have g := goodPK (wa := wetP x y) (wb := wetP x2 y2) hp (dyeP_in hx hy) (dyeP_in hx2 hy2) h 3 (Nat.le_refl _)
  exact goodU hp (by omega) (by omega) g g.m0
theorem goodPN {p a : Int} {d : Bool} {W H M : Nat} {c : Nat → Int} {s : PS} (hp : 1 ≤ p ∧ p ≤ 8) (hW : c 0 = W) (hH : c 1 = H) (W0 : 0 < W) (W8 : W ≤ 8) (H8 : H ≤ 8) (h : GoodP W H M s) (i : Nat) (hi : i ≤ selN (pairU c a d W) (H * W)) : GoodP W H (M + i * 3000) (prN p a d W (H * W) (pairU c a d W) s i) := by
  induction i with
  | zero => exact h
  | succ i ih =>
    obtain ⟨k1, k2⟩ := chE_in (U := pairU c a d W) (n := H * W) (i := i) (by omega)
    obtain ⟨hx, hy, -, -⟩ := cell_at (k := chE (pairU c a d W) (H * W) i) W0 W8 H8 k1
    obtain ⟨x2, y2, e1, e2, hx2, hy2, -⟩ := pair_at hW hH W0 W8 H8 k1 k2
    have := goodPC hp hx hy hx2 hy2 (ih (by omega))
    have e : M + (i + 1) * 3000 = M + i * 3000 + 3000 := by omega
    rw [e]
    unfold prN
    rw [e1, e2, Int.toNat_natCast, Int.toNat_natCast]
    exact this
theorem goodP_start {c : Nat → Int} (hc : FitSheet c) (oc : okS c = true) {W H : Nat} (hW : c 0 = W) (hH : c 1 = H) : GoodP W H 0 ⟨c, 0⟩ := by
  have hok : OkS c := by simpa [okS] using oc
  have hg := good_start hc hc oc oc hW hH
  refine ⟨hc, hW, hH, hg.dc, fun j h1 h2 => ⟨hg.wet j h1 h2, ?_⟩, Int.le_refl _, Int.le_refl _⟩
  have h := hok.2.2 ((j - 2) / 8) (by omega) ((j - 2) % 8) (by omega)
  have e : 2 + (j - 2) / 8 * 8 + (j - 2) % 8 = j := by omega
  have hw := h.2
  unfold CellW at hw
  rw [e] at hw
  show c j ≤ 1000
  omega
/-! ### several folds -/
structure Fd where
  a : Int
  d : Bool
  p : Int
noncomputable def prA (F : Nat → Fd) (W H : Nat) (c : Nat → Int) : Nat → PS
  | 0 => ⟨c, 0⟩
  | k + 1 => ⟨(prF (prA F W H c k).c (F k).a (F k).d (F k).p W H).c, (prA F W H c k).m + (prF (prA F W H c k).c (F k).a (F k).d (F k).p W H).m⟩
theorem goodPF {c : Nat → Int} {a p : Int} {d : Bool} {W H M : Nat} (hp : 1 ≤ p ∧ p ≤ 8) (W0 : 0 < W) (W8 : W ≤ 8) (H8 : H ≤ 8) {m : Int} (h : GoodP W H M ⟨c, m⟩) : GoodP W H 192000 (prF c a d p W H) := by
  have h0 : GoodP W H 0 ⟨c, 0⟩ := ⟨h.fc, h.w0, h.h0, h.dy, h.wt, Int.le_refl _, Int.le_refl _⟩
  have hl := selN_le (pairU c a d W) (H * W)
  have hn : H * W ≤ 64 := Nat.mul_le_mul H8 W8
  exact (goodPN (a := a) (d := d) (c := c) hp h.w0 h.h0 W0 W8 H8 h0 _ (Nat.le_refl _)).le (by omega)
theorem goodPA {F : Nat → Fd} {c : Nat → Int} {W H : Nat} (W0 : 0 < W) (W8 : W ≤ 8) (H8 : H ≤ 8) (h : GoodP W H 0 ⟨c, 0⟩) (k : Nat) (hF : ∀ i, i < k → 1 ≤ (F i).p ∧ (F i).p ≤ 8) : GoodP W H (k * 192000) (prA F W H c k) := by
  induction k with
  | zero => rw [Nat.zero_mul]; exact h
  | succ k ih =>
    have g := ih (fun i hi => hF i (by omega))
    have g2 := goodPF (a := (F k).a) (d := (F k).d) (hF k (by omega)) W0 W8 H8 (show GoodP W H (k * 192000) ⟨(prA F W H c k).c, (prA F W H c k).m⟩ from g)
    have h1 := g.m0
    have h2 := g2.m0
    refine ⟨g2.fc, g2.w0, g2.h0, g2.dy, g2.wt, ?_⟩
    show 0 ≤ _ + _ ∧ _ + _ ≤ (((k + 1) * 192000 : Nat) : Int)
    omega
end Go.Proofs.YtkdfkhjoijfcdaaDoor
