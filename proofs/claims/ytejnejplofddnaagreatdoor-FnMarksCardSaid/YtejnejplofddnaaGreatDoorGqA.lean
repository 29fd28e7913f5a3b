/- Several texts in one: Brush MixPure LiftV BlotP ThatV Fold PicsV PressP FoldS Txt Mark MarkS FText. -/
import Derived.Test.YtejnejplofddnaaGreatDoorBase
import Derived.Test.YtejnejplofddnaaGreatDoorOpen
import Derived.Test.YtejnejplofddnaaGreatDoorAskBase
import Derived.RegionTactic
import Derived.Test.YtejnejplofddnaaGreatDoorCell
import Derived.Test.YtejnejplofddnaaGreatDoorSheetOk
import Derived.Test.YtejnejplofddnaaGreatDoorGqC
import Derived.Laws.AppendOwn
import Derived.Deep.Strs
import Derived.Test.YtejnejplofddnaaGreatDoorWaterI
import Derived.Test.YtejnejplofddnaaGreatDoorPic
import Derived.Laws.MakeOwn
import Derived.StillTailTactics
import Derived.Test.YtejnejplofddnaaGreatDoorShelfA
import Derived.Lib.Hide
import Derived.Laws.IdiomStrings
import Derived.Lib.ItoaNum
import Derived.BigQuiet
import Derived.Deep.QuietTactic
import Derived.Deep.RegionHeld3
import Derived.Lib.Join
/- Brushes: their load, and whether they are valid. -/
namespace Go.Proofs.YtejnejplofddnaaGreatDoor
open Go.RowKit
set_option linter.unusedVariables false
set_option linter.unusedSimpArgs false
set_option maxRecDepth 100000

abbrev brush (a b c wt sh : Int) : Array Value := #[.int .i16 a, .int .i16 b, .int .i16 c, .int .i16 wt, .int .i8 sh]
/-- The numbers of a brush are of their kinds. -/
structure FitBrush (a b c wt sh : Int) : Prop where
  a : -32768 ≤ a ∧ a ≤ 32767
  b : -32768 ≤ b ∧ b ≤ 32767
  c : -32768 ≤ c ∧ c ≤ 32767
  wt : -32768 ≤ wt ∧ wt ≤ 32767
  sh : -128 ≤ sh ∧ sh ≤ 127
theorem fitBrush {c : Nat → Int} (h : FitRow bk 5 c) : FitBrush (c 0) (c 1) (c 2) (c 3) (c 4) := ⟨bd_i16 (h 0 (by omega)), bd_i16 (h 1 (by omega)), bd_i16 (h 2 (by omega)), bd_i16 (h 3 (by omega)), bd_i8 (h 4 (by omega))⟩
def okBrush (a b c wt sh : Int) : Bool := decide (0 ≤ a ∧ a ≤ 900 ∧ 0 ≤ b ∧ b ≤ 900 ∧ 0 ≤ c ∧ c ≤ 900 ∧ a + b + c ≤ 900 ∧ 0 ≤ wt ∧ wt ≤ 200 ∧ 1 ≤ sh ∧ sh ≤ 16)

end Go.Proofs.YtejnejplofddnaaGreatDoor
/- Mixtures: what both searches reckon, round by round. No program. -/
namespace Go.Proofs.YtejnejplofddnaaGreatDoor
set_option linter.unusedVariables false
set_option linter.unusedSimpArgs false
set_option maxRecDepth 100000
/-- The size of a number. -/
def sz (n : Int) : Int := if n < 0 then -n else n
theorem sz_le {n b : Int} (h : -b ≤ n ∧ n ≤ b) : 0 ≤ sz n ∧ sz n ≤ b := by unfold sz; split <;> omega
/-- By how much a mixture is off. -/
def offM (x y z S p : Int) (a b : Nat) : Int := sz (a * S - x * p) + sz (b * S - y * p) + sz ((p - a - b) * S - z * p)
structure St where
  a : Int
  b : Int
  c : Int
  off : Int
def stepM (x y z S p : Int) (s : St) (a b : Nat) : St := if s.off < 0 ∨ offM x y z S p a b < s.off then ⟨a, b, p - a - b, offM x y z S p a b⟩ else s
def rowM (x y z S p : Int) (a : Nat) (s : St) : Nat → St
  | 0 => s
  | b + 1 => stepM x y z S p (rowM x y z S p a s b) a b
def allM (x y z S p : Int) : Nat → St
  | 0 => ⟨0, 0, 0, -1⟩
  | a + 1 => rowM x y z S p a (allM x y z S p a) (p + 1 - a).toNat
theorem mul_bd {a b A B : Int} (ha : 0 ≤ a ∧ a ≤ A) (hb : 0 ≤ b ∧ b ≤ B) : 0 ≤ a * b ∧ a * b ≤ A * B :=
  ⟨Int.mul_nonneg ha.1 hb.1, Int.mul_le_mul ha.2 hb.2 hb.1 (by omega)⟩
theorem offM_bd {x y z S p : Int} {a b : Nat} (hx : 0 ≤ x ∧ x ≤ 1000) (hy : 0 ≤ y ∧ y ≤ 1000) (hz : 0 ≤ z ∧ z ≤ 1000) (hS : 0 ≤ S ∧ S ≤ 3000) (hp : 1 ≤ p ∧ p ≤ 30) (h : (a : Int) + b ≤ p) : 0 ≤ offM x y z S p a b ∧ offM x y z S p a b ≤ 400000 := by
  have h1 := mul_bd (a := a) (A := 30) (by omega) hS
  have h2 := mul_bd (a := b) (A := 30) (by omega) hS
  have h3 := mul_bd (a := p - a - b) (A := 30) (by omega) hS
  have g1 := mul_bd hx (b := p) (B := 30) (by omega)
  have g2 := mul_bd hy (b := p) (B := 30) (by omega)
  have g3 := mul_bd hz (b := p) (B := 30) (by omega)
  have e1 := sz_le (n := a * S - x * p) (b := 90000) (by omega)
  have e2 := sz_le (n := b * S - y * p) (b := 90000) (by omega)
  have e3 := sz_le (n := (p - a - b) * S - z * p) (b := 90000) (by omega)
  unfold offM
  omega
/-- The state's last number stays small. -/
def SmallSt (s : St) : Prop := -1 ≤ s.off ∧ s.off ≤ 400000
theorem step_small {x y z S p : Int} {s : St} {a b : Nat} (hx : 0 ≤ x ∧ x ≤ 1000) (hy : 0 ≤ y ∧ y ≤ 1000) (hz : 0 ≤ z ∧ z ≤ 1000) (hS : 0 ≤ S ∧ S ≤ 3000) (hp : 1 ≤ p ∧ p ≤ 30) (h : (a : Int) + b ≤ p) (hs : SmallSt s) : SmallSt (stepM x y z S p s a b) := by
  have := offM_bd hx hy hz hS hp h
  unfold stepM
  split
  · exact ⟨by show -1 ≤ offM x y z S p a b; omega, this.2⟩
  · exact hs
end Go.Proofs.YtejnejplofddnaaGreatDoor
/- A brush takes dye back from a cell: the numbers, and the codes. Written by gen_lift.py. -/
namespace Go.Proofs.YtejnejplofddnaaGreatDoor
open Go.RowKit
set_option linter.unusedVariables false
set_option linter.unusedSimpArgs false
set_option maxRecDepth 100000
def mn (a b : Int) : Int := if a < b then a else b
theorem mn_cases (a b : Int) : (a < b ∧ mn a b = a) ∨ (b ≤ a ∧ mn a b = b) := by unfold mn; split <;> omega
/-- How much of the k-th ink goes over: D is the place of the cell's first dye, L what the brush has. -/
def lift0 (c : Nat → Int) (D : Nat) (L p : Int) : Int := mn (c D * p / 16) (900 - L)
def lift1 (c : Nat → Int) (D : Nat) (L p : Int) : Int := mn (c (D + 1) * p / 16) (900 - (L + lift0 c D L p))
def lift2 (c : Nat → Int) (D : Nat) (L p : Int) : Int := mn (c (D + 2) * p / 16) (900 - (L + lift0 c D L p + lift1 c D L p))
theorem mul_part {v p : Int} (hv : 0 ≤ v ∧ v ≤ 1000) (hp : 0 ≤ p ∧ p ≤ 16) : 0 ≤ v * p ∧ v * p ≤ 16000 ∧ v * p / 16 ≤ v := by
  have h := mul_bd hv hp
  refine ⟨h.1, by omega, ?_⟩
  have : v * p ≤ v * 16 := Int.mul_le_mul_of_nonneg_left hp.2 hv.1
  omega
theorem mn_in {a b v : Int} (ha : 0 ≤ a) (hv : a ≤ v) (hb : 0 ≤ b) : 0 ≤ mn a b ∧ mn a b ≤ v ∧ mn a b ≤ b := by unfold mn; split <;> omega
theorem lift_in {c : Nat → Int} {D : Nat} {L p : Int} (h0 : 0 ≤ c D ∧ c D ≤ 1000) (h1 : 0 ≤ c (D + 1) ∧ c (D + 1) ≤ 1000) (h2 : 0 ≤ c (D + 2) ∧ c (D + 2) ≤ 1000) (hL : 0 ≤ L ∧ L ≤ 900) (hp : 0 ≤ p ∧ p ≤ 16) :
    (0 ≤ lift0 c D L p ∧ lift0 c D L p ≤ c D ∧ lift0 c D L p ≤ 900 - L) ∧ (0 ≤ lift1 c D L p ∧ lift1 c D L p ≤ c (D + 1) ∧ lift1 c D L p ≤ 900 - (L + lift0 c D L p)) ∧ 0 ≤ lift2 c D L p ∧ lift2 c D L p ≤ c (D + 2) ∧ lift2 c D L p ≤ 900 - (L + lift0 c D L p + lift1 c D L p) := by
  have m0 := mul_part h0 hp
  have m1 := mul_part h1 hp
  have m2 := mul_part h2 hp
  have a0 : 0 ≤ lift0 c D L p ∧ lift0 c D L p ≤ c D ∧ lift0 c D L p ≤ 900 - L := mn_in (by omega) m0.2.2 (by omega)
  have a1 : 0 ≤ lift1 c D L p ∧ lift1 c D L p ≤ c (D + 1) ∧ lift1 c D L p ≤ 900 - (L + lift0 c D L p) := mn_in (by omega) m1.2.2 (by omega)
  exact ⟨a0, a1, mn_in (by omega) m2.2.2 (by omega)⟩
def liftC (c : Nat → Int) (D : Nat) (L p : Int) : Nat → Nat → Int
  | 0 => c
  | 1 => upI c D (c D - lift0 c D L p)
  | 2 => upI (upI c D (c D - lift0 c D L p)) (D + 1) (c (D + 1) - lift1 c D L p)
  | _ => upI (upI (upI c D (c D - lift0 c D L p)) (D + 1) (c (D + 1) - lift1 c D L p)) (D + 2) (c (D + 2) - lift2 c D L p)
theorem liftC_next (c : Nat → Int) (D : Nat) (L p : Int) : liftC c D L p 1 = upI (liftC c D L p 0) D (c D - lift0 c D L p) ∧ liftC c D L p 2 = upI (liftC c D L p 1) (D + 1) (c (D + 1) - lift1 c D L p) ∧ liftC c D L p 3 = upI (liftC c D L p 2) (D + 2) (c (D + 2) - lift2 c D L p) := ⟨rfl, rfl, rfl⟩
theorem liftC_at (c : Nat → Int) (D : Nat) (L p : Int) : liftC c D L p 0 D = c D ∧ liftC c D L p 1 (D + 1) = c (D + 1) ∧ liftC c D L p 2 (D + 2) = c (D + 2) := by
  refine ⟨rfl, ?_, ?_⟩
  · show upI _ _ _ _ = _; unfold upI; rw [if_neg (by omega)]
  · show upI _ _ _ _ = _; unfold upI; rw [if_neg (by omega), if_neg (by omega)]
theorem sk_dye {x y k : Nat} (hx : x < 8) (hy : y < 8) (hk : k < 3) : sk (66 + y * 24 + x * 3 + k) = .i16 := by unfold sk; rw [if_neg (by omega), if_pos (by omega)]
/-- The place of a cell's first dye. -/
def dyeP (x y : Nat) : Nat := 66 + y * 24 + x * 3
theorem ok_dyes {c : Nat → Int} (h : okS c = true) {x y : Nat} (hx : x < 8) (hy : y < 8) : (0 ≤ c (dyeP x y) ∧ c (dyeP x y) ≤ 1000) ∧ (0 ≤ c (dyeP x y + 1) ∧ c (dyeP x y + 1) ≤ 1000) ∧ 0 ≤ c (dyeP x y + 2) ∧ c (dyeP x y + 2) ≤ 1000 := by
  have hok : OkS c := by simpa [okS] using h
  have := hok.2.2 y hy x hx
  unfold dyeP
  obtain ⟨g0, g1, g2, g3, g4⟩ := this
  exact ⟨by omega, by omega, by omega⟩
def askL (b o i f : Bool) : Int := if b then askB o i f else 1
noncomputable def liftV (c : Nat → Int) (a b d wt sh x y p : Int) : Value :=
  if okBrush a b d wt sh = true ∧ okS c = true ∧ isP c x y = true ∧ inB p 0 16 = true then
    .tuple #[.agg (kc sk 266 (liftC c (dyeP x.toNat y.toNat) (a + b + d) p 3)), .agg (brush (a + lift0 c (dyeP x.toNat y.toNat) (a + b + d) p) (b + lift1 c (dyeP x.toNat y.toNat) (a + b + d) p) (d + lift2 c (dyeP x.toNat y.toNat) (a + b + d) p) wt sh), .int .i64 0]
  else .tuple #[.agg (kc sk 266 fun _ => 0), .agg (brush 0 0 0 0 0), .int .i64 (askL (okBrush a b d wt sh) (okS c) (isP c x y) (inB p 0 16))]
theorem liftV_is (c : Nat → Int) (a b d wt sh x y p : Int) : ∃ (e : Nat → Int) (a1 b1 d1 wt1 sh1 z : Int), liftV c a b d wt sh x y p = .tuple #[.agg (kc sk 266 e), .agg (brush a1 b1 d1 wt1 sh1), .int .i64 z] := by
  unfold liftV; split <;> exact ⟨_, _, _, _, _, _, _, rfl⟩
theorem liftV_no {c : Nat → Int} {a b d wt sh x y p : Int} (h : ¬ (okBrush a b d wt sh = true ∧ okS c = true ∧ isP c x y = true ∧ inB p 0 16 = true)) : liftV c a b d wt sh x y p = .tuple #[.agg (kc sk 266 fun _ => 0), .agg (brush 0 0 0 0 0), .int .i64 (askL (okBrush a b d wt sh) (okS c) (isP c x y) (inB p 0 16))] := if_neg h
theorem liftV_yes {c : Nat → Int} {a b d wt sh p : Int} {x y : Nat} (h : okBrush a b d wt sh = true ∧ okS c = true ∧ isP c x y = true ∧ inB p 0 16 = true) : liftV c a b d wt sh x y p = .tuple #[.agg (kc sk 266 (liftC c (dyeP x y) (a + b + d) p 3)), .agg (brush (a + lift0 c (dyeP x y) (a + b + d) p) (b + lift1 c (dyeP x y) (a + b + d) p) (d + lift2 c (dyeP x y) (a + b + d) p) wt sh), .int .i64 0] := by
  unfold liftV; rw [if_pos h]; simp only [Int.toNat_natCast]
/-- What is known at the head of a round: k inks have gone over. -/
def LiftR (c : Nat → Int) (a b d wt sh : Int) (x y : Nat) (p : Int) (w : World) (k : Nat) (wr : World) : Prop := Below w.heap.size w wr ∧ w.heap.size + 5 ≤ wr.heap.size ∧ rowOf wr w.heap.size = kc sk 266 (liftC c (dyeP x y) (a + b + d) p k) ∧ frOf wr w.heap.size = (0, 0) ∧
  rowOf wr (w.heap.size + 1) = brush (if 0 < k then a + lift0 c (dyeP x y) (a + b + d) p else a) (if 1 < k then b + lift1 c (dyeP x y) (a + b + d) p else b) (if 2 < k then d + lift2 c (dyeP x y) (a + b + d) p else d) wt sh ∧ frOf wr (w.heap.size + 1) = (0, 0) ∧
  rowOf wr (w.heap.size + 1 + 1) = #[.int .i8 x, .int .i8 y] ∧ rowOf wr (w.heap.size + 1 + 1 + 1) = kc sk 266 (fun _ => 0) ∧ frOf wr (w.heap.size + 1 + 1 + 1) = (0, 0) ∧ rowOf wr (w.heap.size + 1 + 1 + 1 + 1) = brush 0 0 0 0 0 ∧ frOf wr (w.heap.size + 1 + 1 + 1 + 1) = (0, 0)
end Go.Proofs.YtejnejplofddnaaGreatDoor
/- Ink goes over from a sheet to another one: the numbers. -/
namespace Go.Proofs.YtejnejplofddnaaGreatDoor
open Go.RowKit
set_option linter.unusedVariables false
set_option linter.unusedSimpArgs false
set_option maxRecDepth 100000
/-- Two sheets, and how much has gone over. -/
structure BS where
  c : Nat → Int
  d : Nat → Int
  m : Int
def goes (p : Int) (D E : Nat) (s : BS) : Int := mn (s.c D * p / 16) (1000 - s.d E)
def bl1 (p : Int) (D E : Nat) (s : BS) : BS := ⟨upI s.c D (s.c D - goes p D E s), upI s.d E (s.d E + goes p D E s), s.m + goes p D E s⟩
/-- So many inks of a cell. -/
def blK (p : Int) (D E : Nat) (s : BS) : Nat → BS
  | 0 => s
  | k + 1 => bl1 p (D + k) (E + k) (blK p D E s k)
open Classical in
noncomputable def blC (p : Int) (x x2 y : Nat) (s : BS) : BS := if s.c (2 + y * 8 + x) = 0 ∨ waxS s.d x2 y = true then s else blK p (dyeP x y) (dyeP x2 y) s 3
/-- So many cells of sheets so wide. -/
noncomputable def blN (p : Int) (W : Nat) (s : BS) : Nat → BS
  | 0 => s
  | n + 1 => blC p (n % W) (W - 1 - n % W) (n / W) (blN p W s n)
/-- So many rounds. -/
noncomputable def blR (p : Int) (W n : Nat) (s : BS) : Nat → BS
  | 0 => s
  | k + 1 => blN p W (blR p W n s k) n
/-- What holds on the way: the sheets' sides, their dyes, how much has gone over at most. -/
structure GoodB (W H : Nat) (M : Nat) (s : BS) : Prop where
  fc : FitSheet s.c
  fd : FitSheet s.d
  w0 : s.c 0 = W
  h0 : s.c 1 = H
  dc : ∀ j, 66 ≤ j → j < 258 → 0 ≤ s.c j ∧ s.c j ≤ 1000
  dd : ∀ j, 66 ≤ j → j < 258 → 0 ≤ s.d j ∧ s.d j ≤ 1000
  wet : ∀ j, 2 ≤ j → j < 66 → 0 ≤ s.c j
  m0 : 0 ≤ s.m ∧ s.m ≤ M
theorem fit_up {c : Nat → Int} (h : FitSheet c) {j : Nat} (h1 : 66 ≤ j) (h2 : j < 258) {v : Int} (hv : 0 ≤ v ∧ v ≤ 1000) : FitSheet (upI c j v) where
  side := fun i hi => by unfold upI; rw [if_neg (by omega)]; exact h.side i hi
  cell := fun i a b => by unfold upI; split; omega; exact h.cell i a b
  wax := fun i a b => by unfold upI; rw [if_neg (by omega)]; exact h.wax i a b
theorem goes_in {p : Int} {D E : Nat} {W H M : Nat} {s : BS} (hp : 1 ≤ p ∧ p ≤ 8) (hD : 66 ≤ D ∧ D < 258) (hE : 66 ≤ E ∧ E < 258) (h : GoodB W H M s) : 0 ≤ goes p D E s ∧ goes p D E s ≤ s.c D ∧ goes p D E s ≤ 1000 - s.d E := by
  have a := h.dc D hD.1 hD.2
  have b := h.dd E hE.1 hE.2
  exact mn_in (by have := mul_part a (p := p) (by omega); omega) (mul_part a (p := p) (by omega)).2.2 (by omega)
theorem good1 {p : Int} {D E : Nat} {W H M : Nat} {s : BS} (hp : 1 ≤ p ∧ p ≤ 8) (hD : 66 ≤ D ∧ D < 258) (hE : 66 ≤ E ∧ E < 258) (h : GoodB W H M s) : GoodB W H (M + 1000) (bl1 p D E s) := by
  have g := goes_in hp hD hE h
  have a := h.dc D hD.1 hD.2
  have b := h.dd E hE.1 hE.2
  have hm := h.m0
  refine ⟨fit_up h.fc hD.1 hD.2 (by omega), fit_up h.fd hE.1 hE.2 (by omega), ?_, ?_, ?_, ?_, ?_, ?_⟩
  · show upI _ _ _ 0 = _; unfold upI; rw [if_neg (by omega)]; exact h.w0
  · show upI _ _ _ 1 = _; unfold upI; rw [if_neg (by omega)]; exact h.h0
  · intro j h1 h2; show 0 ≤ upI _ _ _ j ∧ upI _ _ _ j ≤ 1000; unfold upI; split; omega; exact h.dc j h1 h2
  · intro j h1 h2; show 0 ≤ upI _ _ _ j ∧ upI _ _ _ j ≤ 1000; unfold upI; split; omega; exact h.dd j h1 h2
  · intro j h1 h2; show 0 ≤ upI _ _ _ j; unfold upI; rw [if_neg (by omega)]; exact h.wet j h1 h2
  · show 0 ≤ s.m + goes p D E s ∧ s.m + goes p D E s ≤ ((M + 1000 : Nat) : Int); omega
theorem goodK {p : Int} {D E : Nat} {W H M : Nat} {s : BS} (hp : 1 ≤ p ∧ p ≤ 8) (hD : 66 ≤ D ∧ D < 256) (hE : 66 ≤ E ∧ E < 256) (h : GoodB W H M s) (k : Nat) (hk : k ≤ 3) : GoodB W H (M + k * 1000) (blK p D E s k) := by
  induction k with
  | zero => exact h
  | succ k ih =>
    have := good1 hp (D := D + k) (E := E + k) (by omega) (by omega) (ih (by omega))
    have e : M + (k + 1) * 1000 = M + k * 1000 + 1000 := by omega
    rw [e]; exact this
theorem GoodB.le {W H M M' : Nat} {s : BS} (h : GoodB W H M s) (hM : M ≤ M') : GoodB W H M' s := ⟨h.fc, h.fd, h.w0, h.h0, h.dc, h.dd, h.wet, by have := h.m0; omega⟩
theorem dyeP_in {x y : Nat} (hx : x < 8) (hy : y < 8) : 66 ≤ dyeP x y ∧ dyeP x y < 256 := by unfold dyeP; omega
theorem goodC {p : Int} {x x2 y : Nat} {W H M : Nat} {s : BS} (hp : 1 ≤ p ∧ p ≤ 8) (hx : x < 8) (hx2 : x2 < 8) (hy : y < 8) (h : GoodB W H M s) : GoodB W H (M + 3000) (blC p x x2 y s) := by
  unfold blC
  split
  · exact h.le (by omega)
  · exact (goodK hp (dyeP_in hx hy) (dyeP_in hx2 hy) h 3 (Nat.le_refl _)).le (by omega)
theorem goodN {p : Int} {W H M : Nat} {s : BS} (hp : 1 ≤ p ∧ p ≤ 8) (W0 : 0 < W) (W8 : W ≤ 8) (H8 : H ≤ 8) (h : GoodB W H M s) (n : Nat) (hn : n ≤ H * W) : GoodB W H (M + n * 3000) (blN p W s n) := by
  induction n with
  | zero => exact h
  | succ n ih =>
    have h1 := Nat.mod_lt n W0
    have h2 : n / W < H := (Nat.div_lt_iff_lt_mul W0).2 (by omega)
    have := goodC (x := n % W) (x2 := W - 1 - n % W) (y := n / W) hp (by omega) (by omega) (by omega) (ih (by omega))
    have e : M + (n + 1) * 3000 = M + n * 3000 + 3000 := by omega
    rw [e]; exact this
theorem goodR {p : Int} {W H M n : Nat} {s : BS} (hp : 1 ≤ p ∧ p ≤ 8) (W0 : 0 < W) (W8 : W ≤ 8) (H8 : H ≤ 8) (h : GoodB W H M s) (hn : n ≤ H * W) (hn64 : n ≤ 64) (k : Nat) : GoodB W H (M + k * 192000) (blR p W n s k) := by
  induction k with
  | zero => exact h
  | succ k ih =>
    have := (goodN hp W0 W8 H8 ih n hn).le (M' := M + k * 192000 + 192000) (by omega)
    have e : M + (k + 1) * 192000 = M + k * 192000 + 192000 := by omega
    rw [e]; exact this
theorem good_start {c d : Nat → Int} (hc : FitSheet c) (hd : FitSheet d) (oc : okS c = true) (od : okS d = true) {W H : Nat} (hW : c 0 = W) (hH : c 1 = H) : GoodB W H 0 ⟨c, d, 0⟩ := by
  have cells : ∀ e : Nat → Int, okS e = true → ∀ j, 66 ≤ j → j < 258 → 0 ≤ e j ∧ e j ≤ 1000 := by
    intro e he j h1 h2
    obtain ⟨g0, g1, g2⟩ := ok_dyes he (x := (j - 66) % 24 / 3) (y := (j - 66) / 24) (by omega) (by omega)
    have hj : (j - 66) % 3 = 0 ∨ (j - 66) % 3 = 1 ∨ (j - 66) % 3 = 2 := by omega
    unfold dyeP at g0 g1 g2
    rcases hj with h | h | h
    · rwa [show 66 + (j - 66) / 24 * 24 + (j - 66) % 24 / 3 * 3 = j by omega] at g0
    · rwa [show 66 + (j - 66) / 24 * 24 + (j - 66) % 24 / 3 * 3 + 1 = j by omega] at g1
    · rwa [show 66 + (j - 66) / 24 * 24 + (j - 66) % 24 / 3 * 3 + 2 = j by omega] at g2
  refine ⟨hc, hd, hW, hH, cells c oc, cells d od, ?_, Int.le_refl _, Int.le_refl _⟩
  intro j h1 h2
  have hok : OkS c := by simpa [okS] using oc
  have := hok.2.2 ((j - 2) / 8) (by omega) ((j - 2) % 8) (by omega)
  obtain ⟨g0, g1, g2, g3, g4⟩ := this
  have e : 2 + (j - 2) / 8 * 8 + (j - 2) % 8 = j := by omega
  rw [e] at g1
  show 0 ≤ c j
  first | exact g1.1 | (rw [e] at g0; exact g0.1) | omega
/-- How much had gone over before makes no difference to what goes over. -/
theorem blK_shift (p : Int) (D E : Nat) (c d : Nat → Int) (m m2 : Int) (k : Nat) : (blK p D E ⟨c, d, m + m2⟩ k).c = (blK p D E ⟨c, d, m2⟩ k).c ∧ (blK p D E ⟨c, d, m + m2⟩ k).d = (blK p D E ⟨c, d, m2⟩ k).d ∧ (blK p D E ⟨c, d, m + m2⟩ k).m = m + (blK p D E ⟨c, d, m2⟩ k).m := by
  induction k with
  | zero => exact ⟨rfl, rfl, rfl⟩
  | succ k ih =>
    obtain ⟨h1, h2, h3⟩ := ih
    have hg : goes p (D + k) (E + k) (blK p D E ⟨c, d, m + m2⟩ k) = goes p (D + k) (E + k) (blK p D E ⟨c, d, m2⟩ k) := by unfold goes; rw [h1, h2]
    refine ⟨?_, ?_, ?_⟩
    · show upI _ _ _ = upI _ _ _; rw [h1, hg]
    · show upI _ _ _ = upI _ _ _; rw [h2, hg]
    · show _ + _ = _ + (_ + _); rw [h3, hg, Int.add_assoc]
theorem blN_shift (p : Int) (W : Nat) (c d : Nat → Int) (m : Int) (n : Nat) : (blN p W ⟨c, d, m⟩ n).c = (blN p W ⟨c, d, 0⟩ n).c ∧ (blN p W ⟨c, d, m⟩ n).d = (blN p W ⟨c, d, 0⟩ n).d ∧ (blN p W ⟨c, d, m⟩ n).m = m + (blN p W ⟨c, d, 0⟩ n).m := by
  induction n with
  | zero => exact ⟨rfl, rfl, (Int.add_zero _).symm⟩
  | succ n ih =>
    obtain ⟨h1, h2, h3⟩ := ih
    show (blC p _ _ _ (blN p W ⟨c, d, m⟩ n)).c = (blC p _ _ _ (blN p W ⟨c, d, 0⟩ n)).c ∧ (blC p _ _ _ (blN p W ⟨c, d, m⟩ n)).d = (blC p _ _ _ (blN p W ⟨c, d, 0⟩ n)).d ∧ (blC p _ _ _ (blN p W ⟨c, d, m⟩ n)).m = m + (blC p _ _ _ (blN p W ⟨c, d, 0⟩ n)).m
    generalize blN p W ⟨c, d, m⟩ n = a at *
    generalize blN p W ⟨c, d, 0⟩ n = b at *
    obtain ⟨ac, ad, am⟩ := a
    obtain ⟨bc, bd, bm⟩ := b
    simp only at h1 h2 h3
    subst h1 h2 h3
    unfold blC
    split
    · exact ⟨rfl, rfl, rfl⟩
    · exact blK_shift p _ _ _ _ m bm 3
/-- What a call of one round leaves of the world. -/
def Two (p q B : Nat) (w w' : World) (s : BS) : Prop := rowOf w' p = kc sk 266 s.c ∧ rowOf w' q = kc sk 266 s.d ∧ frOf w' p = (0, 0) ∧ frOf w' q = (0, 0) ∧ w.heap.size ≤ w'.heap.size ∧ (∀ b, b ≠ p → b ≠ q → b < w.heap.size → rowOf w' b = rowOf w b ∧ frOf w' b = frOf w b) ∧ Below B w w'
/-- What is known at the head of a round over cells. -/
def BlR (p q B : Nat) (w w1 : World) (g : Nat) (s : BS) (wr : World) : Prop := Two p q B w wr s ∧ w1.heap.size ≤ wr.heap.size ∧ rowOf wr g = rowOf w1 g
end Go.Proofs.YtejnejplofddnaaGreatDoor
/- Places that were chosen, as a slice; an append that tells where its slice lies. No program. -/
namespace Go.Proofs.YtejnejplofddnaaGreatDoor
open Go.RowKit
set_option linter.unusedVariables false
set_option linter.unusedSimpArgs false
set_option maxRecDepth 100000
/-- The chosen ones among the first n places of a sheet so wide. -/
def selL (U : Nat → Bool) (W : Nat) : Nat → List Value
  | 0 => []
  | k + 1 => if U k = true then selL U W k ++ [.int .i8 ((k % W : Nat) : Int), .int .i8 ((k / W : Nat) : Int)] else selL U W k
def selN (U : Nat → Bool) : Nat → Nat
  | 0 => 0
  | k + 1 => if U k = true then selN U k + 1 else selN U k
theorem sel_yes {U : Nat → Bool} {W k : Nat} (h : U k = true) : selL U W (k + 1) = selL U W k ++ [.int .i8 ((k % W : Nat) : Int), .int .i8 ((k / W : Nat) : Int)] ∧ selN U (k + 1) = selN U k + 1 := ⟨if_pos h, if_pos h⟩
theorem sel_no {U : Nat → Bool} {W k : Nat} (h : U k = false) : selL U W (k + 1) = selL U W k ∧ selN U (k + 1) = selN U k := ⟨if_neg (by simp [h]), if_neg (by simp [h])⟩
theorem selN_le (U : Nat → Bool) : ∀ n, selN U n ≤ n
  | 0 => Nat.le_refl _
  | k + 1 => by
    have := selN_le U k
    rcases Bool.eq_false_or_eq_true (U k) with h | h
    · rw [(sel_yes (W := 0) h).2]; omega
    · rw [(sel_no (W := 0) h).2]; omega
theorem selL_len (U : Nat → Bool) (W : Nat) : ∀ n, (selL U W n).length = selN U n * 2
  | 0 => rfl
  | k + 1 => by
    have := selL_len U W k
    rcases Bool.eq_false_or_eq_true (U k) with h | h
    · rw [(sel_yes h).1, (sel_yes (W := W) h).2, List.length_append, this, Nat.succ_mul]; rfl
    · rw [(sel_no h).1, (sel_no (W := W) h).2, this]
theorem selL_int (U : Nat → Bool) (W : Nat) : ∀ n, ∀ u ∈ selL U W n, ∃ a : Int, u = .int .i8 a
  | 0, u, h => by cases h
  | k + 1, u, h => by
    have ih := selL_int U W k
    rcases Bool.eq_false_or_eq_true (U k) with e | e
    · rw [(sel_yes e).1, List.mem_append] at h
      rcases h with h | h
      · exact ih u h
      · simp at h
        rcases h with rfl | rfl <;> exact ⟨_, rfl⟩
    · rw [(sel_no e).1] at h
      exact ih u h
/-- All are chosen. -/
theorem sel_all {U : Nat → Bool} (W n : Nat) (h : ∀ i, i < n → U i = true) : selL U W n = spots W n ∧ selN U n = n := by
  induction n with
  | zero => exact ⟨rfl, rfl⟩
  | succ n ih =>
    obtain ⟨h1, h2⟩ := ih (fun i hi => h i (by omega))
    have hn := h n (by omega)
    rw [(sel_yes hn).1, (sel_yes (W := W) hn).2, h1, h2]
    refine ⟨?_, rfl⟩
    unfold spots
    rw [List.range_succ, List.flatMap_append]
    simp only [List.flatMap_cons, List.flatMap_nil, List.append_nil]
noncomputable def selE (U : Nat → Bool) (W n : Nat) (j : Nat) : Int := intOf (((selL U W n)[j]?).getD (.int .i64 0))
theorem selE_at (U : Nat → Bool) (W n : Nat) (j : Nat) (h : j < selN U n * 2) : (selL U W n)[j]? = some (.int .i8 (selE U W n j)) := by
  have hl : j < (selL U W n).length := by rw [selL_len]; exact h
  obtain ⟨a, ha⟩ := selL_int U W n _ (List.getElem_mem hl)
  unfold selE
  rw [List.getElem?_eq_getElem hl, ha]; rfl
section
variable {P : Program} (w : World)
theorem append_place (base : Nat) (t ty e : TypeId) (i : TypeInfo) (z : Value) (size bytes : Nat) (ht : P.underlying t = some (.slice e)) (hi : P.info? e = some i) (hz : i.zero = some z)
    (hsize : i.size = size) (hby : i.bytes = bytes) (hzs : z.cells.size = size) (g cap : Nat) (n : Nat) (xs : List Value) (hown : w.ownsRow base e size (.slice (some ⟨g, 0, none⟩) n cap) n xs)
    (a : Addr) (m c : Nat) (news : List Value) (hl : news.length = m * size) (hnews : ∀ j u, news[j]? = some u → w.cell? (a.add j) = some u) (h1 : ∀ u ∈ news, u.oneCell' = true)
    (h63 : n + m ≤ maxLen) (hbytes : (n + m) * bytes ≤ 140737488355328) {v' : Value} {w' : World} (hr : (Builtin.append_ #[t, t] ty #[.slice (some ⟨g, 0, none⟩) n cap, .slice (some a) m c]).run P w = .ok v' w') :
    ∃ b cap', v' = .slice (some ⟨b, 0, none⟩) (n + m) cap' ∧ (b = g ∨ w.heap.size ≤ b) := by
  subst hsize
  subst hby
  have hsmall : n + m ≤ 9223372036854775807 := by simp only [maxLen] at h63; omega
  rcases hown.2 with ⟨h, -⟩ | ⟨g', cap', cur, h, hbg, hg, hnc, hcm, hcs, htake⟩
  · cases h
  · cases h
    by_cases hroom : n + m ≤ cap
    · have hfit : n * i.size + news.length ≤ cur.size := by rw [hl, hcs, ← Nat.add_mul]; exact Nat.mul_le_mul_right _ hroom
      rw [run_append_room (P := P) w t ty e i ht hi g n cap cur hg a m c news hl hnews h1 hroom hfit] at hr
      cases hr
      exact ⟨g, _, rfl, .inl rfl⟩
    · have holds : ∀ j u, xs[j]? = some u → w.cell? ((⟨g, 0, none⟩ : Addr).add j) = some u := hown.cells (g := g) rfl
      rw [run_append_grow (P := P) w t ty e i z ht hi hz ⟨g, 0, none⟩ n cap xs hown.1 holds a m c news hl hnews (by omega) (by omega) (growslice_fits (by omega) hbytes)] at hr
      cases hr
      exact ⟨_, _, rfl, .inr (Nat.le_refl _)⟩
theorem wpList_append_at {ops : Array Oper} {rest : List Oper} {o : Oper} {a : Act} {Q : Exit → Act → World → Prop} (hgd : o.guard = none) (s x : Operand) (t : TypeId)
    (ho : o.op = .call { callee := .builtin .append, args := #[s, x], argTypes := #[t, t] })
    (base : Nat) (e : TypeId) (i : TypeInfo) (z : Value) (size bytes : Nat) (ht : P.underlying t = some (.slice e)) (hi : P.info? e = some i) (hz : i.zero = some z)
    (hsize : i.size = size) (hby : i.bytes = bytes) (hzs : z.cells.size = size) (hsz : 0 < size)
    (g cap : Nat) (n : Nat) (xs : List Value) (hs : a.eval s = .slice (some ⟨g, 0, none⟩) n cap) (hown : w.ownsRow base e size (.slice (some ⟨g, 0, none⟩) n cap) n xs)
    (ad : Addr) (m c : Nat) (news : List Value) (hx : a.eval x = .slice (some ad) m c) (hl : news.length = m * size) (hnews : ∀ j u, news[j]? = some u → w.cell? (ad.add j) = some u) (h1 : ∀ u ∈ news, u.oneCell' = true)
    (h63 : n + m ≤ maxLen) (hbytes : (n + m) * bytes ≤ 140737488355328) (hbase : base ≤ w.heap.size)
    (h : ∀ b cap' w', w'.ownsRow base e size (.slice (some ⟨b, 0, none⟩) (n + m) cap') (n + m) (xs ++ news) → w.grownBy w' (some g) → (b = g ∨ w.heap.size ≤ b) → wpList P ops Q rest (a.put o.dst (.slice (some ⟨b, 0, none⟩) (n + m) cap')) w') : wpList P ops Q (o :: rest) a w :=
  wpList_plain hgd fun _ hK => by
    obtain ⟨v', w', hr, h2, h3, -⟩ := run_append_own (P := P) w base t o.type e i z size bytes ht hi hz hsize hby hzs hsz _ n xs hown ad m c news hl hnews h1 h63 hbytes hbase
    obtain ⟨b, cap', rfl, hb⟩ := append_place (P := P) w base t o.type e i z size bytes ht hi hz hsize hby hzs g cap n xs hown ad m c news hl hnews h1 h63 hbytes hr
    unfold Oper.wp execOp
    simp only [ho, resolve, invoke, builtin, Sem.run_bind, Sem.run_pure, Result.andThen_ok, List.map_toArray, List.map_cons, List.map_nil, hs, hx, hr]
    exact hK _ _ (h b cap' w' h2 h3 hb)
end
end Go.Proofs.YtejnejplofddnaaGreatDoor
/- Folds: whether one is valid. -/
namespace Go.Proofs.YtejnejplofddnaaGreatDoor
open Go.RowKit Go.ChangeShapes Go.WideShapes Go.ChangeAt
set_option linter.unusedVariables false
set_option linter.unusedSimpArgs false
set_option maxRecDepth 100000
/-- A fold as the statements hand it over. -/
theorem open_fold {H : Type} {enc : TypeId × Value → H} {P : Program} {w W : World} {base b0 : Nat} {spare : Nat → Bool} {held : Bool} {r : Reach} {t : TypeId} {v : Value} {d : DataW H} {p : List MemPlace} {f0 f1 f2 : Field}
    (hu : P.underlying t = some (.struct #[f0, f1, f2])) (u0 : P.underlying f0.type = some (.int .i8)) (u1 : P.underlying f1.type = some .bool) (u2 : P.underlying f2.type = some (.int .i8))
    (o0 : f0.offset = 0) (o1 : f1.offset = 1) (o2 : f2.offset = 2) (c0 : P.cellsOf f0.type = 1) (c1 : P.cellsOf f1.type = 1) (c2 : P.cellsOf f2.type = 1) (ct : P.cellsOf t = 3)
    (hv : Value.okWide P W r b0 t v) (h : DataW.Trod enc P w base spare held t v d p) : ∃ (a : Int) (b : Bool) (q : Int), v = .agg #[.int .i8 a, .bool b, .int .i8 q] ∧ (-128 ≤ a ∧ a ≤ 127) ∧ -128 ≤ q ∧ q ≤ 127 := by
  unfold Value.okWide at hv
  rw [hu] at hv
  obtain ⟨cs, rfl, _⟩ := hv
  obtain ⟨fuel, hx⟩ := h
  obtain ⟨y0, y1, y2, n, _, hl, e0, e1, e2⟩ := Deep.trod_struct3 hu hx
  obtain ⟨a, ha, _, wa⟩ := DataW.trod_int u0 e0
  obtain ⟨b, hb, _⟩ := DataW.trod_bool u1 e1
  obtain ⟨q, hq, _, wq⟩ := DataW.trod_int u2 e2
  simp only [Value.cells, o0, o1, o2, c0, c1, c2, ct] at ha hb hq hl
  obtain ⟨l⟩ := cs
  match l, hl with
  | [x, y, z], _ =>
    simp at ha hb hq
    subst ha; subst hb; subst hq
    exact ⟨a, b, q, rfl, bd_i8 wa, bd_i8 wq⟩
def foldB (c : Nat → Int) (a : Int) (d : Bool) (q : Int) : Bool := inB a 1 ((if d then c 1 else c 0) - 1) && inB q 1 8
end Go.Proofs.YtejnejplofddnaaGreatDoor
/- Cells of a picture: the numbers. No program. -/
namespace Go.Proofs.YtejnejplofddnaaGreatDoor
open Go.RowKit
set_option linter.unusedVariables false
set_option linter.unusedSimpArgs false
set_option maxRecDepth 100000
/-- What the k-th cell of a picture so wide shows. -/
abbrev pF (c : Nat → Int) (W k : Nat) : Int := c (2 + k / W * 8 + k % W)
/-- How many of the first n cells show m. -/
def cnt (c : Nat → Int) (W : Nat) (m : Int) (n : Nat) : Int := sumTo (fun k => if pF c W k = m then 1 else 0) n
theorem cnt_zero (c : Nat → Int) (W : Nat) (m : Int) : cnt c W m 0 = 0 := rfl
theorem cnt_yes {c : Nat → Int} {W : Nat} {m : Int} {n : Nat} (h : pF c W n = m) : cnt c W m (n + 1) = cnt c W m n + 1 := by
  show sumTo _ n + (if pF c W n = m then 1 else 0) = _
  rw [if_pos h]; rfl
theorem cnt_no {c : Nat → Int} {W : Nat} {m : Int} {n : Nat} (h : pF c W n ≠ m) : cnt c W m (n + 1) = cnt c W m n := by
  show sumTo _ n + (if pF c W n = m then 1 else 0) = _
  rw [if_neg h, Int.add_zero]; rfl
theorem cnt_in (c : Nat → Int) (W : Nat) (m : Int) (n : Nat) : 0 ≤ cnt c W m n ∧ cnt c W m n ≤ n := by
  have := sumTo_in (fun k => if pF c W k = m then 1 else 0) 0 1 n (fun k _ => by show 0 ≤ (if _ then (1 : Int) else 0) ∧ (if _ then (1 : Int) else 0) ≤ 1; split <;> omega)
  unfold cnt; omega
theorem okP_is {c : Nat → Int} (h : okP c = true) : OkP c := by simpa [okP] using h
theorem okP_sides {c : Nat → Int} (h : okP c = true) : ∃ W H : Nat, c 0 = W ∧ c 1 = H ∧ 0 < W ∧ 0 < H ∧ W ≤ 8 ∧ H ≤ 8 := by
  have ⟨h0, h1, _⟩ := okP_is h
  exact ⟨(c 0).toNat, (c 1).toNat, by omega, by omega, by omega, by omega, by omega, by omega⟩
theorem okP_cell {c : Nat → Int} (h : okP c = true) {x y : Nat} (hx : x < 8) (hy : y < 8) : c (2 + y * 8 + x) ≤ 3 := ((okP_is h).2.2 y hy x hx).1
/-- All that a walk over the cells needs of the k-th one. -/
theorem cell_at {W H k : Nat} (W0 : 0 < W) (W8 : W ≤ 8) (H8 : H ≤ 8) (hk : k < H * W) : k % W < 8 ∧ k / W < 8 ∧ k % W < W ∧ k / W < H := by
  have h1 := Nat.mod_lt k W0
  have h2 : k / W < H := (Nat.div_lt_iff_lt_mul W0).2 hk
  omega
end Go.Proofs.YtejnejplofddnaaGreatDoor
/- Folds pressed upon a sheet: the numbers. No program. -/
namespace Go.Proofs.YtejnejplofddnaaGreatDoor
open Go.RowKit
set_option linter.unusedVariables false
set_option linter.unusedSimpArgs false
set_option maxRecDepth 100000
/-! ### which cells are chosen, one behind the other -/
def chos (U : Nat → Bool) : Nat → List Nat
  | 0 => []
  | k + 1 => if U k = true then chos U k ++ [k] else chos U k
theorem chos_yes {U : Nat → Bool} {k : Nat} (h : U k = true) : chos U (k + 1) = chos U k ++ [k] := if_pos h
theorem chos_no {U : Nat → Bool} {k : Nat} (h : U k = false) : chos U (k + 1) = chos U k := if_neg (by simp [h])
theorem chos_len (U : Nat → Bool) : ∀ n, (chos U n).length = selN U n
  | 0 => rfl
  | k + 1 => by
    have := chos_len U k
    rcases Bool.eq_false_or_eq_true (U k) with e | e
    · rw [chos_yes e, (sel_yes (W := 0) e).2, List.length_append, this]; rfl
    · rw [chos_no e, (sel_no (W := 0) e).2, this]
theorem chos_in (U : Nat → Bool) : ∀ n, ∀ k ∈ chos U n, k < n ∧ U k = true
  | 0, k, h => by cases h
  | n + 1, k, h => by
    rcases Bool.eq_false_or_eq_true (U n) with e | e
    · rw [chos_yes e, List.mem_append] at h
      rcases h with h | h
      · have := chos_in U n k h; exact ⟨by omega, this.2⟩
      · simp at h; subst h; exact ⟨by omega, e⟩
    · rw [chos_no e] at h
      have := chos_in U n k h; exact ⟨by omega, this.2⟩
def chE (U : Nat → Bool) (n i : Nat) : Nat := (chos U n).getD i 0
theorem chE_at {U : Nat → Bool} {n i : Nat} (h : i < selN U n) : (chos U n)[i]? = some (chE U n i) := by
  rw [← chos_len U n] at h
  unfold chE
  rw [List.getD_eq_getElem?_getD, List.getElem?_eq_getElem h]; rfl
theorem chE_in {U : Nat → Bool} {n i : Nat} (h : i < selN U n) : chE U n i < n ∧ U (chE U n i) = true :=
  chos_in U n _ (List.mem_of_getElem? (chE_at h))
/-! ### the pairs of a fold -/
def ptX (a : Int) (d : Bool) (W k : Nat) : Int := if d then ((k % W : Nat) : Int) else 2 * a - 1 - ((k % W : Nat) : Int)
def ptY (a : Int) (d : Bool) (W k : Nat) : Int := if d then 2 * a - 1 - ((k / W : Nat) : Int) else ((k / W : Nat) : Int)
def firstB (a : Int) (d : Bool) (x y : Int) : Bool := if d then decide (y < a) else decide (x < a)
def pairU (c : Nat → Int) (a : Int) (d : Bool) (W k : Nat) : Bool := firstB a d ((k % W : Nat) : Int) ((k / W : Nat) : Int) && isP c (ptX a d W k) (ptY a d W k) && !(waxS c (k % W) (k / W)) && !(waxS c (ptX a d W k).toNat (ptY a d W k).toNat)
def prL (U : Nat → Bool) (a : Int) (d : Bool) (W : Nat) : Nat → List Value
  | 0 => []
  | k + 1 => if U k = true then prL U a d W k ++ [.int .i8 ((k % W : Nat) : Int), .int .i8 ((k / W : Nat) : Int), .int .i8 (ptX a d W k), .int .i8 (ptY a d W k)] else prL U a d W k
theorem prL_yes {U : Nat → Bool} {a : Int} {d : Bool} {W k : Nat} (h : U k = true) : prL U a d W (k + 1) = prL U a d W k ++ [.int .i8 ((k % W : Nat) : Int), .int .i8 ((k / W : Nat) : Int), .int .i8 (ptX a d W k), .int .i8 (ptY a d W k)] ∧ selN U (k + 1) = selN U k + 1 := ⟨if_pos h, (sel_yes (W := 0) h).2⟩
theorem prL_no {U : Nat → Bool} {a : Int} {d : Bool} {W k : Nat} (h : U k = false) : prL U a d W (k + 1) = prL U a d W k ∧ selN U (k + 1) = selN U k := ⟨if_neg (by simp [h]), (sel_no (W := 0) h).2⟩
theorem prL_len (U : Nat → Bool) (a : Int) (d : Bool) (W : Nat) : ∀ n, (prL U a d W n).length = selN U n * 4
  | 0 => rfl
  | k + 1 => by
    have := prL_len U a d W k
    rcases Bool.eq_false_or_eq_true (U k) with e | e
    · rw [(prL_yes e).1, (prL_yes (a := a) (d := d) (W := W) e).2, List.length_append, this, Nat.succ_mul]; rfl
    · rw [(prL_no e).1, (prL_no (a := a) (d := d) (W := W) e).2, this]
theorem prL_at (U : Nat → Bool) (a : Int) (d : Bool) (W : Nat) : ∀ n i, i < selN U n → ∀ k, (chos U n)[i]? = some k → (prL U a d W n)[i * 4]? = some (.int .i8 ((k % W : Nat) : Int)) ∧ (prL U a d W n)[i * 4 + 1]? = some (.int .i8 ((k / W : Nat) : Int)) ∧ (prL U a d W n)[i * 4 + 2]? = some (.int .i8 (ptX a d W k)) ∧ (prL U a d W n)[i * 4 + 3]? = some (.int .i8 (ptY a d W k))
  | 0, i, h, k, hk => absurd h (by show ¬ i < 0; omega)
  | n + 1, i, h, k, hk => by
    have hl := prL_len U a d W n
    have hc := chos_len U n
    rcases Bool.eq_false_or_eq_true (U n) with e | e
    · rw [(prL_yes e).1]
      rw [(sel_yes (W := 0) e).2] at h
      rw [chos_yes e] at hk
      by_cases hi : i < selN U n
      · rw [List.getElem?_append_left (by omega)] at hk
        have ih := prL_at U a d W n i hi k hk
        rw [List.getElem?_append_left (by omega), List.getElem?_append_left (by omega), List.getElem?_append_left (by omega), List.getElem?_append_left (by omega)]
        exact ih
      · have hi2 : i = selN U n := by omega
        subst hi2
        rw [List.getElem?_append_right (by omega), hc, Nat.sub_self] at hk
        simp at hk
        subst hk
        rw [List.getElem?_append_right (by omega), List.getElem?_append_right (by omega), List.getElem?_append_right (by omega), List.getElem?_append_right (by omega), hl, Nat.sub_self, show selN U n * 4 + 1 - selN U n * 4 = 1 by omega, show selN U n * 4 + 2 - selN U n * 4 = 2 by omega, show selN U n * 4 + 3 - selN U n * 4 = 3 by omega]
        exact ⟨rfl, rfl, rfl, rfl⟩
    · rw [(prL_no e).1]
      rw [(sel_no (W := 0) e).2] at h
      rw [chos_no e] at hk
      exact prL_at U a d W n i h k hk
/-- A pair's second cell lies behind the first one. -/
theorem pair_at {c : Nat → Int} {a : Int} {d : Bool} {W H k : Nat} (hW : c 0 = W) (hH : c 1 = H) (W0 : 0 < W) (W8 : W ≤ 8) (H8 : H ≤ 8) (hk : k < H * W) (hU : pairU c a d W k = true) :
    ∃ x2 y2 : Nat, ptX a d W k = (x2 : Int) ∧ ptY a d W k = (y2 : Int) ∧ x2 < 8 ∧ y2 < 8 ∧ ((k % W < x2 ∧ k / W = y2) ∨ (k % W = x2 ∧ k / W < y2)) := by
  obtain ⟨hx, hy, hxW, hyH⟩ := cell_at W0 W8 H8 hk
  unfold pairU at hU
  simp only [Bool.and_eq_true] at hU
  obtain ⟨⟨⟨h1, h2⟩, -⟩, -⟩ := hU
  unfold isP at h2
  simp only [Bool.and_eq_true, inB_true] at h2
  obtain ⟨⟨h3, h4⟩, h5, h6⟩ := h2
  rw [hW] at h4
  rw [hH] at h6
  obtain ⟨x2, hx2⟩ : ∃ x2 : Nat, ptX a d W k = x2 := ⟨(ptX a d W k).toNat, by omega⟩
  obtain ⟨y2, hy2⟩ : ∃ y2 : Nat, ptY a d W k = y2 := ⟨(ptY a d W k).toNat, by omega⟩
  refine ⟨x2, y2, hx2, hy2, by omega, by omega, ?_⟩
  unfold firstB at h1
  unfold ptX at hx2
  unfold ptY at hy2
  cases d <;> simp at h1 hx2 hy2 <;> omega
/-! ### one fold pressed -/
structure PS where
  c : Nat → Int
  m : Int
def mvI (p a b : Int) : Int := if b < a then (a - b) * p / 16 else -((b - a) * p / 16)
def absI (a : Int) : Int := if a < 0 then -a else a
theorem mvI_in {p a b : Int} (hp : 1 ≤ p ∧ p ≤ 8) (ha : 0 ≤ a ∧ a ≤ 1000) (hb : 0 ≤ b ∧ b ≤ 1000) : (b < a → 0 ≤ mvI p a b ∧ mvI p a b ≤ a - b) ∧ (a ≤ b → a - b ≤ mvI p a b ∧ mvI p a b ≤ 0) := by
  unfold mvI
  constructor
  · intro h
    rw [if_pos h]
    have := mul_part (v := a - b) (p := p) (by omega) (by omega)
    omega
  · intro h
    rw [if_neg (by omega)]
    have := mul_part (v := b - a) (p := p) (by omega) (by omega)
    omega
def stops (p : Int) (D E wa wb : Nat) (s : PS) : Prop := (0 < mvI p (s.c D) (s.c E) ∧ s.c wa = 0) ∨ (mvI p (s.c D) (s.c E) < 0 ∧ s.c wb = 0)
def prU (p : Int) (D E : Nat) (s : PS) : Nat → Int := upI (upI s.c D (s.c D - mvI p (s.c D) (s.c E))) E (s.c E + mvI p (s.c D) (s.c E))
open Classical in
noncomputable def pr1 (p : Int) (D E wa wb : Nat) (s : PS) : PS := if stops p D E wa wb s then s else ⟨prU p D E s, s.m + absI (mvI p (s.c D) (s.c E))⟩
noncomputable def prK (p : Int) (D E wa wb : Nat) (s : PS) : Nat → PS
  | 0 => s
  | k + 1 => pr1 p (D + k) (E + k) wa wb (prK p D E wa wb s k)
def prW (p : Int) (wa wb : Nat) (s : PS) : PS := ⟨prU p wa wb s, s.m⟩
def wetP (x y : Nat) : Nat := 2 + y * 8 + x
noncomputable def prC (p : Int) (x y x2 y2 : Nat) (s : PS) : PS := prW p (wetP x y) (wetP x2 y2) (prK p (dyeP x y) (dyeP x2 y2) (wetP x y) (wetP x2 y2) s 3)
/-- So many of the pairs. -/
noncomputable def prN (p a : Int) (d : Bool) (W n : Nat) (U : Nat → Bool) (s : PS) : Nat → PS
  | 0 => s
  | i + 1 => prC p (chE U n i % W) (chE U n i / W) (ptX a d W (chE U n i)).toNat (ptY a d W (chE U n i)).toNat (prN p a d W n U s i)
noncomputable def prF (c : Nat → Int) (a : Int) (d : Bool) (p : Int) (W H : Nat) : PS := prN p a d W (H * W) (pairU c a d W) ⟨c, 0⟩ (selN (pairU c a d W) (H * W))
/-- What holds on the way. -/
structure GoodP (W H M : Nat) (s : PS) : Prop where
  fc : FitSheet s.c
  w0 : s.c 0 = W
  h0 : s.c 1 = H
  dy : ∀ j, 66 ≤ j → j < 258 → 0 ≤ s.c j ∧ s.c j ≤ 1000
  wt : ∀ j, 2 ≤ j → j < 66 → 0 ≤ s.c j ∧ s.c j ≤ 1000
  m0 : 0 ≤ s.m ∧ s.m ≤ M
theorem GoodP.le {W H M M' : Nat} {s : PS} (h : GoodP W H M s) (hM : M ≤ M') : GoodP W H M' s := ⟨h.fc, h.w0, h.h0, h.dy, h.wt, by have := h.m0; omega⟩
theorem GoodP.cell {W H M : Nat} {s : PS} (h : GoodP W H M s) {j : Nat} (h1 : 2 ≤ j) (h2 : j < 258) : 0 ≤ s.c j ∧ s.c j ≤ 1000 := by
  by_cases hj : j < 66
  · exact h.wt j h1 hj
  · exact h.dy j (by omega) h2
theorem fit_upP {c : Nat → Int} (h : FitSheet c) {j : Nat} (h1 : 2 ≤ j) (h2 : j < 258) {v : Int} (hv : 0 ≤ v ∧ v ≤ 1000) : FitSheet (upI c j v) where
  side := fun i hi => by unfold upI; rw [if_neg (by omega)]; exact h.side i hi
  cell := fun i a b => by unfold upI; split; omega; exact h.cell i a b
  wax := fun i a b => by unfold upI; rw [if_neg (by omega)]; exact h.wax i a b
theorem goodU {p : Int} {D E W H M : Nat} {s : PS} (hp : 1 ≤ p ∧ p ≤ 8) (hD : 2 ≤ D ∧ D < 258) (hE : 2 ≤ E ∧ E < 258) (h : GoodP W H M s) {m : Int} {M' : Nat} (hm : 0 ≤ m ∧ m ≤ M') : GoodP W H M' ⟨prU p D E s, m⟩ := by
  have a := h.cell hD.1 hD.2
  have b := h.cell hE.1 hE.2
  have g := mvI_in hp a b
  have v1 : 0 ≤ s.c D - mvI p (s.c D) (s.c E) ∧ s.c D - mvI p (s.c D) (s.c E) ≤ 1000 := by
    by_cases hh : s.c E < s.c D
    · have := g.1 hh; omega
    · have := g.2 (by omega); omega
  have v2 : 0 ≤ s.c E + mvI p (s.c D) (s.c E) ∧ s.c E + mvI p (s.c D) (s.c E) ≤ 1000 := by
    by_cases hh : s.c E < s.c D
    · have := g.1 hh; omega
    · have := g.2 (by omega); omega
  unfold prU
  generalize s.c D - mvI p (s.c D) (s.c E) = u at *
  generalize s.c E + mvI p (s.c D) (s.c E) = v at *
  refine ⟨fit_upP (fit_upP h.fc hD.1 hD.2 v1) hE.1 hE.2 v2, ?_, ?_, ?_, ?_, hm⟩
  · show upI (upI _ _ _) _ _ 0 = _; unfold upI; rw [if_neg (by omega), if_neg (by omega)]; exact h.w0
  · show upI (upI _ _ _) _ _ 1 = _; unfold upI; rw [if_neg (by omega), if_neg (by omega)]; exact h.h0
  · intro j h1 h2; show 0 ≤ upI (upI _ _ _) _ _ j ∧ upI (upI _ _ _) _ _ j ≤ 1000; unfold upI; split; omega; split; omega; exact h.dy j h1 h2
  · intro j h1 h2; show 0 ≤ upI (upI _ _ _) _ _ j ∧ upI (upI _ _ _) _ _ j ≤ 1000; unfold upI; split; omega; split; omega; exact h.wt j h1 h2
theorem abs_in {p a b : Int} (hp : 1 ≤ p ∧ p ≤ 8) (ha : 0 ≤ a ∧ a ≤ 1000) (hb : 0 ≤ b ∧ b ≤ 1000) : 0 ≤ absI (mvI p a b) ∧ absI (mvI p a b) ≤ 1000 := by
  have g := mvI_in hp ha hb
  unfold absI
  by_cases hh : b < a
  · have := g.1 hh; split <;> omega
  · have := g.2 (by omega); split <;> omega
theorem goodP1 {p : Int} {D E wa wb W H M : Nat} {s : PS} (hp : 1 ≤ p ∧ p ≤ 8) (hD : 2 ≤ D ∧ D < 258) (hE : 2 ≤ E ∧ E < 258) (h : GoodP W H M s) : GoodP W H (M + 1000) (pr1 p D E wa wb s) := by
  unfold pr1
  split
  · exact h.le (by omega)
  · have := abs_in hp (h.cell hD.1 hD.2) (h.cell hE.1 hE.2)
    have hm := h.m0
    exact goodU hp hD hE h (by omega)
theorem goodPK {p : Int} {D E wa wb W H M : Nat} {s : PS} (hp : 1 ≤ p ∧ p ≤ 8) (hD : 66 ≤ D ∧ D < 256) (hE : 66 ≤ E ∧ E < 256) (h : GoodP W H M s) (k : Nat) (hk : k ≤ 3) : GoodP W H (M + k * 1000) (prK p D E wa wb s k) := by
  induction k with
  | zero => exact h
  | succ k ih =>
    have := goodP1 hp (D := D + k) (E := E + k) (wa := wa) (wb := wb) (by omega) (by omega) (ih (by omega))
    have e : M + (k + 1) * 1000 = M + k * 1000 + 1000 := by omega
    rw [e]; exact this
theorem wetP_in {x y : Nat} (hx : x < 8) (hy : y < 8) : 2 ≤ wetP x y ∧ wetP x y < 66 := by unfold wetP; omega
theorem goodPC {p : Int} {x y x2 y2 W H M : Nat} {s : PS} (hp : 1 ≤ p ∧ p ≤ 8) (hx : x < 8) (hy : y < 8) (hx2 : x2 < 8) (hy2 : y2 < 8) (h : GoodP W H M s) : GoodP W H (M + 3000) (prC p x y x2 y2 s) := by
  unfold prC prW
  have a := wetP_in hx hy
  have b := wetP_in hx2 hy2
  have g := goodPK (wa := wetP x y) (wb := wetP x2 y2) hp (dyeP_in hx hy) (dyeP_in hx2 hy2) h 3 (Nat.le_refl _)
  exact goodU hp (by omega) (by omega) g g.m0
theorem goodPN {p a : Int} {d : Bool} {W H M : Nat} {c : Nat → Int} {s : PS} (hp : 1 ≤ p ∧ p ≤ 8) (hW : c 0 = W) (hH : c 1 = H) (W0 : 0 < W) (W8 : W ≤ 8) (H8 : H ≤ 8) (h : GoodP W H M s) (i : Nat) (hi : i ≤ selN (pairU c a d W) (H * W)) : GoodP W H (M + i * 3000) (prN p a d W (H * W) (pairU c a d W) s i) := by
  induction i with
  | zero => exact h
  | succ i ih =>
    obtain ⟨k1, k2⟩ := chE_in (U := pairU c a d W) (n := H * W) (i := i) (by omega)
    obtain ⟨hx, hy, -, -⟩ := cell_at (k := chE (pairU c a d W) (H * W) i) W0 W8 H8 k1
    obtain ⟨x2, y2, e1, e2, hx2, hy2, -⟩ := pair_at hW hH W0 W8 H8 k1 k2
    have := goodPC hp hx hy hx2 hy2 (ih (by omega))
    have e : M + (i + 1) * 3000 = M + i * 3000 + 3000 := by omega
    rw [e]
    unfold prN
    rw [e1, e2, Int.toNat_natCast, Int.toNat_natCast]
    exact this
theorem goodP_start {c : Nat → Int} (hc : FitSheet c) (oc : okS c = true) {W H : Nat} (hW : c 0 = W) (hH : c 1 = H) : GoodP W H 0 ⟨c, 0⟩ := by
  have hok : OkS c := by simpa [okS] using oc
  have hg := good_start hc hc oc oc hW hH
  refine ⟨hc, hW, hH, hg.dc, fun j h1 h2 => ⟨hg.wet j h1 h2, ?_⟩, Int.le_refl _, Int.le_refl _⟩
  have h := hok.2.2 ((j - 2) / 8) (by omega) ((j - 2) % 8) (by omega)
  have e : 2 + (j - 2) / 8 * 8 + (j - 2) % 8 = j := by omega
  have hw := h.2
  unfold CellW at hw
  rw [e] at hw
  show c j ≤ 1000
  omega
/-! ### several folds -/
structure Fd where
  a : Int
  d : Bool
  p : Int
noncomputable def prA (F : Nat → Fd) (W H : Nat) (c : Nat → Int) : Nat → PS
  | 0 => ⟨c, 0⟩
  | k + 1 => ⟨(prF (prA F W H c k).c (F k).a (F k).d (F k).p W H).c, (prA F W H c k).m + (prF (prA F W H c k).c (F k).a (F k).d (F k).p W H).m⟩
theorem goodPF {c : Nat → Int} {a p : Int} {d : Bool} {W H M : Nat} (hp : 1 ≤ p ∧ p ≤ 8) (W0 : 0 < W) (W8 : W ≤ 8) (H8 : H ≤ 8) {m : Int} (h : GoodP W H M ⟨c, m⟩) : GoodP W H 192000 (prF c a d p W H) := by
  have h0 : GoodP W H 0 ⟨c, 0⟩ := ⟨h.fc, h.w0, h.h0, h.dy, h.wt, Int.le_refl _, Int.le_refl _⟩
  have hl := selN_le (pairU c a d W) (H * W)
  have hn : H * W ≤ 64 := Nat.mul_le_mul H8 W8
  exact (goodPN (a := a) (d := d) (c := c) hp h.w0 h.h0 W0 W8 H8 h0 _ (Nat.le_refl _)).le (by omega)
theorem goodPA {F : Nat → Fd} {c : Nat → Int} {W H : Nat} (W0 : 0 < W) (W8 : W ≤ 8) (H8 : H ≤ 8) (h : GoodP W H 0 ⟨c, 0⟩) (k : Nat) (hF : ∀ i, i < k → 1 ≤ (F i).p ∧ (F i).p ≤ 8) : GoodP W H (k * 192000) (prA F W H c k) := by
  induction k with
  | zero => rw [Nat.zero_mul]; exact h
  | succ k ih =>
    have g := ih (fun i hi => hF i (by omega))
    have g2 := goodPF (a := (F k).a) (d := (F k).d) (hF k (by omega)) W0 W8 H8 (show GoodP W H (k * 192000) ⟨(prA F W H c k).c, (prA F W H c k).m⟩ from g)
    have h1 := g.m0
    have h2 := g2.m0
    refine ⟨g2.fc, g2.w0, g2.h0, g2.dy, g2.wt, ?_⟩
    show 0 ≤ _ + _ ∧ _ + _ ≤ (((k + 1) * 192000 : Nat) : Int)
    omega
end Go.Proofs.YtejnejplofddnaaGreatDoor
/- Slices of folds: how such an argument reads; copied, sized and compared by the statements. -/
namespace Go.Proofs.YtejnejplofddnaaGreatDoor
open Go.RowKit Go.ChangeShapes Go.WideShapes Go.ChangeAt Go.Deep
set_option linter.unusedVariables false
set_option linter.unusedSimpArgs false
set_option maxRecDepth 100000
/-- The cells of folds. -/
def fdV (F : Nat → Fd) (k j : Nat) : Value := if j = 0 then .int .i8 (F k).a else if j = 1 then .bool (F k).d else .int .i8 (F k).p
def fdL (f : Fd) : Array Value := #[.int .i8 f.a, .bool f.d, .int .i8 f.p]
def FdIn (f : Fd) : Prop := (-128 ≤ f.a ∧ f.a ≤ 127) ∧ -128 ≤ f.p ∧ f.p ≤ 127
theorem ext_fold {R : Array Value} {o : Nat} {F : Nat → Fd} {k : Nat} (hs : o + 3 ≤ R.size) (h : ∀ j, j < 3 → R[o + j]? = some (fdV F k j)) : rowExt R o 3 = #[.int .i8 (F k).a, .bool (F k).d, .int .i8 (F k).p] := ext_mk hs h
theorem open_slF {H : Type} {enc : TypeId × Value → H} {P : Program} {w : World} {base b0 : Nat} {spare : Nat → Bool} {held : Bool} {r : Reach} {t e : TypeId} {v : Value} {d : DataW H} {p : List MemPlace} {f0 f1 f2 : Field}
    (ht : P.underlying t = some (.slice e)) (hu : P.underlying e = some (.struct #[f0, f1, f2])) (u0 : P.underlying f0.type = some (.int .i8)) (u1 : P.underlying f1.type = some .bool) (u2 : P.underlying f2.type = some (.int .i8))
    (o0 : f0.offset = 0) (o1 : f1.offset = 1) (o2 : f2.offset = 2) (c0 : P.cellsOf f0.type = 1) (c1 : P.cellsOf f1.type = 1) (c2 : P.cellsOf f2.type = 1) (ct : P.cellsOf e = 3)
    (hv : Value.okWide P w r b0 t v) (h : DataW.Trod enc P w base spare held t v d p) :
    ∃ (n : Nat) (F : Nat → Fd), SlV 3 w v n (fdV F) ∧ n ≤ 9223372036854775807 ∧ ∀ k, k < n → FdIn (F k) := by
  obtain ⟨a0, len0, cap0, rfl⟩ := okWide_slice ht hv
  obtain ⟨fuel, hx⟩ := h
  rcases open_slice ht hx with ⟨h0, -⟩ | ⟨a, len, cap, m, n, D, Pl, h0, hb, hl, hm, hmm, -, hel⟩
  · simp only [Value.cells] at h0
    simp at h0
    obtain ⟨rfl, rfl, rfl⟩ := h0
    exact ⟨0, fun _ => ⟨0, false, 0⟩, .inl ⟨rfl, rfl⟩, by omega, fun j hj => by omega⟩
  · simp only [Value.cells] at h0
    simp at h0
    obtain ⟨rfl, rfl, rfl⟩ := h0
    have hlm : len0 ≤ m := by rw [hmm]; split <;> omega
    have each : ∀ k, k < len0 → ∃ f : Fd, FdIn f ∧ ∀ j, j < 3 → w.cell? (a.add (k * 3 + j)) = some (fdV (fun _ => f) 0 j) := by
      intro k hk
      obtain ⟨cs', h1, h2⟩ := hel k (by omega)
      obtain ⟨_, _, hcell⟩ := World.cells?_some h1
      obtain ⟨y0, y1, y2, nn, _, hl3, e0, e1, e2⟩ := Deep.trod_struct3 hu h2
      obtain ⟨x, hx, _, wx⟩ := DataW.trod_int u0 e0
      obtain ⟨b, hb2, _⟩ := DataW.trod_bool u1 e1
      obtain ⟨q, hq, _, wq⟩ := DataW.trod_int u2 e2
      simp only [o0, o1, o2, c0, c1, c2, ct] at hx hb2 hq hl3
      match cs', hl3 with
      | [x', y', z'], _ =>
        simp at hx hb2 hq
        subst hx; subst hb2; subst hq
        refine ⟨⟨x, b, q⟩, ⟨bd_i8 wx, bd_i8 wq⟩, fun j hj => ?_⟩
        have := hcell j (by rw [ct]; exact hj)
        rw [add_add, ct, Nat.mul_comm] at this
        rw [Nat.mul_comm] at this
        match j, hj with
        | 0, _ => exact this
        | 1, _ => exact this
        | 2, _ => exact this
    obtain ⟨F, hF⟩ : ∃ F : Nat → Fd, ∀ k, k < len0 → FdIn (F k) ∧ ∀ j, j < 3 → w.cell? (a.add (k * 3 + j)) = some (fdV F k j) := by
      classical
      refine ⟨fun k => if hk : k < len0 then Classical.choose (each k hk) else ⟨0, false, 0⟩, fun k hk => ?_⟩
      have hs := Classical.choose_spec (each k hk)
      refine ⟨by simp only [dif_pos hk]; exact hs.1, fun j hj => ?_⟩
      rw [hs.2 j hj]
      unfold fdV
      simp only [dif_pos hk]
    refine ⟨len0, F, .inr ⟨a, cap0, rfl, fun hn => ?_⟩, by unfold maxLen at hm; omega, fun k hk => (hF k hk).1⟩
    have h00 := (hF 0 hn).2 0 (by omega)
    have hspot : a.spot = none := by
      have : a.add (0 * 3 + 0) = a := by unfold Addr.add; simp
      rw [this] at h00
      unfold World.cell? at h00
      split at h00
      · split at h00
        · cases h00
        · rename_i hsp; simpa using hsp
      · cases h00
    obtain ⟨g, o, sp⟩ := a
    simp only at hspot
    subst hspot
    have hadd : ∀ j, (⟨g, o, none⟩ : Addr).add j = ⟨g, o + j, none⟩ := fun j => by unfold Addr.add; split <;> simp_all
    have hc : ∀ k, k < len0 → ∀ j, j < 3 → (rowOf w g)[o + k * 3 + j]? = some (fdV F k j) := fun k hk j hj => by
      have := (hF k hk).2 j hj
      rw [hadd, cell_row, ← Nat.add_assoc] at this
      exact this
    refine ⟨g, o, rfl, ?_, ?_, hc⟩
    · rw [hadd] at h00
      exact World.block_lt_of_cell? w ⟨g, o + (0 * 3 + 0), none⟩ h00
    · have := (Array.getElem?_eq_some_iff.1 (hc (len0 - 1) (by omega) 2 (by omega))).1
      omega
@[go_sem] theorem oneCell_intF (k : IntKind) (n : Int) : (Value.int k n).oneCell' = true := rfl
@[go_sem] theorem oneCell_boolF (b : Bool) : (Value.bool b).oneCell' = true := rfl
end Go.Proofs.YtejnejplofddnaaGreatDoor
/- Texts; the text of a number: the program's word and the reference's. -/
namespace Go.Proofs.YtejnejplofddnaaGreatDoor
open Go.RowKit
set_option linter.unusedVariables false
set_option linter.unusedSimpArgs false
set_option maxRecDepth 100000
/-- A text by its bytes. -/
def tx (l : List UInt8) : ByteArray := ⟨l.toArray⟩
theorem tx_size (l : List UInt8) : (tx l).size = l.length := by unfold tx; first | rfl | simp [ByteArray.size]
theorem tx_app (a b : List UInt8) : tx a ++ tx b = tx (a ++ b) := by unfold tx; rw [ByteArray.mk_append_mk]
theorem tx_list (l : List UInt8) : (tx l).toList = l := ByteArray.toList_mk l
theorem tx_inj {a b : List UInt8} (h : tx a = tx b) : a = b := by have := congrArg ByteArray.toList h; rwa [tx_list, tx_list] at this
/-- A byte as a text. -/
def by8 (n : Int) : UInt8 := UInt8.ofNat n.toNat
def convBX (src dst : TypeId) (v : Value) : Sem Value := convert src dst v
def conv1 (o : Option Value) (w : World) (r : Result Value) : Result Value := match o with | some (.int .u8 n) => if 0 ≤ n ∧ n < 256 then .ok (.string (tx [by8 n])) w else r | _ => r
theorem run_conv1 {P : Program} (w : World) (src dst e : TypeId) (hs : P.underlying src = some (.slice e)) (he : P.underlying e = some (.int .u8)) (hd : P.underlying dst = some .string) (g cap : Nat) :
    (convert src dst (.slice (some ⟨g, 0, none⟩) 1 cap)).run P w = conv1 ((rowOf w g)[0]?) w ((convBX src dst (.slice (some ⟨g, 0, none⟩) 1 cap)).run P w) := by
  unfold conv1
  split
  · rename_i n hn
    split
    · rename_i h
      have := run_convert_bytes_back (P := P) w src dst e ⟨g, 0, none⟩ cap [by8 n] hs he hd (fun j hj => by
        have hj0 : j = 0 := by simp at hj; omega
        subst hj0
        show w.cell? ⟨g, 0, none⟩ = _
        rw [cell_row, hn]
        unfold by8
        simp only [List.getElem_cons_zero]
        congr 2
        have : (UInt8.ofNat n.toNat).toNat = n.toNat := by rw [UInt8.toNat_ofNat']; omega
        omega)
      exact this
    · rfl
  · rfl
theorem conv1_is {n : Int} (h : 0 ≤ n ∧ n < 256) (w : World) (r : Result Value) : conv1 (some (.int .u8 n)) w r = .ok (.string (tx [by8 n])) w := if_pos h
/-- A text added to another one. -/
theorem run_addS {P : Program} (w : World) (x y : ByteArray) (h : x.size + y.size ≤ 9223372036854775807) : (Op.stringOp .add x y).run P w = .ok (.string (x ++ y)) w := by
  unfold Op.stringOp
  have : ¬ (((x.size + y.size : Nat) : Int) > IntKind.i64.max) := by
    rw [show IntKind.i64.max = 9223372036854775807 from rfl]; omega
  rw [if_neg this]; rfl
theorem decimal_any (i : Nat) (hi : i < 100) (w : World) : Calls Tryz.prog 67 #[.int .i64 i] w fun e w' => e = .returned (.string (tx (Lib.decDigits i))) ∧ w = w' := by
  have HF := Lib.hid (Tryz.strconv_FormatInt_10_small i hi)
  go_enter Tryz.func67, Tryz.ntmps67
  go_wp2_with (go_at_call 114; refine (HF.out _).mono ?_; rintro e w1 ⟨rfl, rfl⟩)
  go_ret
  exact ⟨rfl, rfl⟩
theorem dec_one {i : Nat} (hi : i < 10) : Lib.decDigits i = [by8 (48 + (i : Int))] := by
  rw [Lib.decDigits, dif_pos hi]
  unfold by8
  rw [show (48 + (i : Int)).toNat = 48 + i from by omega]
/-- Texts added, by their bytes: the sum of the lengths is a test of the walk's. -/
def addX (x y : ByteArray) : Sem Value := Op.stringOp .add x y
@[go_sem] theorem addS_A (a b : List UInt8) (w : World) : (Op.stringOp .add (tx a) (tx b)).run Tryz.prog w = selLe (a.length + b.length) 9223372036854775807 (.ok (.string (tx (a ++ b))) w) ((addX (tx a) (tx b)).run Tryz.prog w) := by
  unfold selLe
  split
  · rename_i h
    rw [run_addS w _ _ (by rw [tx_size, tx_size]; exact h), tx_app]
  · rfl
@[go_sem] theorem tc_nil : (ByteArray.mk #[]) = tx [] := rfl
@[go_sem] theorem tc_32 : (ByteArray.mk #[32]) = tx [32] := rfl
@[go_sem] theorem tc_44 : (ByteArray.mk #[44]) = tx [44] := rfl
@[go_sem] theorem tc_47 : (ByteArray.mk #[47]) = tx [47] := rfl
@[go_sem] theorem tc_118 : (ByteArray.mk #[118]) = tx [118] := rfl
@[go_sem] theorem tc_104 : (ByteArray.mk #[104]) = tx [104] := rfl
@[go_sem] theorem tc_10 : (ByteArray.mk #[10]) = tx [10] := rfl
@[go_sem] theorem tc_45 : (ByteArray.mk #[45]) = tx [45] := rfl
attribute [go_sem] List.length_append List.length_cons List.length_nil tx_size tx_app
end Go.Proofs.YtejnejplofddnaaGreatDoor
/- The text of a mark: the program and the reference. -/
namespace Go.Proofs.YtejnejplofddnaaGreatDoor
open Go.RowKit
set_option linter.unusedVariables false
set_option linter.unusedSimpArgs false
set_option maxRecDepth 100000
/-- The bytes of so many cells. -/
def cellsTx (f : Nat → Int) : Nat → List UInt8
  | 0 => []
  | k + 1 => cellsTx f k ++ ([32] ++ [by8 (48 + f (k * 2))] ++ [44] ++ [by8 (48 + f (k * 2 + 1))])
theorem cellsTx_len (f : Nat → Int) : ∀ k, (cellsTx f k).length = 4 * k
  | 0 => rfl
  | k + 1 => by
    have := cellsTx_len f k
    show (cellsTx f k ++ _).length = _
    rw [List.length_append, this]; simp; omega
def CellsTo (f : Nat → Int) (k : Nat) : Prop := ∀ i, i < k → (0 ≤ f (i * 2) ∧ f (i * 2) ≤ 7) ∧ 0 ≤ f (i * 2 + 1) ∧ f (i * 2 + 1) ≤ 7
open Classical in
noncomputable def cells8 (f : Nat → Int) (n : Nat) : Bool := decide (CellsTo f n)
open Classical in
theorem cells8_yes {f : Nat → Int} {n : Nat} (h : CellsTo f n) : cells8 f n = true := decide_eq_true h
open Classical in
theorem cells8_no {f : Nat → Int} {n k : Nat} (hk : k < n) (h : ¬ ((0 ≤ f (k * 2) ∧ f (k * 2) ≤ 7) ∧ 0 ≤ f (k * 2 + 1) ∧ f (k * 2 + 1) ≤ 7)) : cells8 f n = false := decide_eq_false (fun g => h (g k hk))
open Classical in
theorem cells8_to {f : Nat → Int} {n : Nat} (h : cells8 f n = true) : CellsTo f n := by unfold cells8 at h; exact of_decide_eq_true h
theorem cells8_next {f : Nat → Int} {k : Nat} (h : CellsTo f k) (g : (0 ≤ f (k * 2) ∧ f (k * 2) ≤ 7) ∧ 0 ≤ f (k * 2 + 1) ∧ f (k * 2 + 1) ≤ 7) : CellsTo f (k + 1) := fun i h1 => by
  rcases Nat.lt_succ_iff_lt_or_eq.1 h1 with h2 | rfl
  · exact h i h2
  · exact g
noncomputable def markB (col : Int) (f : Nat → Int) (n : Nat) : Bool := inB col 0 2 && inB (n : Int) 1 64 && cells8 f n
noncomputable def markTx (col : Int) (f : Nat → Int) (n : Nat) : List UInt8 := if markB col f n = true then [by8 (97 + col)] ++ cellsTx f n else []
theorem markTx_no {col : Int} {f : Nat → Int} {n : Nat} (h : markB col f n = false) : markTx col f n = [] := if_neg (by simp [h])
theorem markTx_yes {col : Int} {f : Nat → Int} {n : Nat} (h : markB col f n = true) : markTx col f n = [by8 (97 + col)] ++ cellsTx f n := if_pos h
theorem three {a : Int} (h : inB a 0 2 = true) : a = 0 ∨ a = 1 ∨ a = 2 := by have := inB_true.1 h; omega
@[go_sem] theorem tc_abc (i : Int) (w : World) : (Instr.index 9 (.string (ByteArray.mk #[97, 98, 99])) (.int .i8 i)).run Tryz.prog w = (Instr.index 9 (.string (tx [97, 98, 99])) (.int .i8 i)).run Tryz.prog w := rfl
theorem by_97 : by8 (97 + 0) = 97 := by decide
theorem by_98 : by8 (97 + 1) = 98 := by decide
theorem by_99 : by8 (97 + 2) = 99 := by decide
theorem decimal_q (i : Nat) (hi : i < 100) (w : World) : Calls Tryz.prog 67 #[.int .i64 i] w fun e w' => e = .returned (.string (tx (Lib.decDigits i))) ∧ w' = w := (decimal_any i hi w).mono fun _ _ h => ⟨h.1, h.2.symm⟩
theorem decimal_d (i : Nat) (hi : i < 10) (w : World) : Calls Tryz.prog 67 #[.int .i64 i] w fun e w' => e = .returned (.string (tx [by8 (48 + (i : Int))])) ∧ w' = w := by rw [← dec_one hi]; exact decimal_q i (by omega) w
theorem size_spotsM (v : Value) (n : Nat) (f : Nat → Int) (w : World) (h : SlA .i8 2 w v n f) : Calls Tryz.prog 58 #[v] w fun e w' => e = .returned (.int .i64 (n : Int)) ∧ w = w' := by
  obtain ⟨a, cap, rfl⟩ := h.len
  clear h
  go_enter Tryz.func58, Tryz.ntmps58
  go_wp2
  go_ret
  exact ⟨rfl, rfl⟩
set_option maxHeartbeats 8000000 in
theorem iMarkText_any (col : Int) (hcol : -128 ≤ col ∧ col ≤ 127) (v : Value) (n : Nat) (f : Nat → Int) (hn : n ≤ 1048576) (hf : ∀ j, j < n * 2 → -128 ≤ f j ∧ f j ≤ 127) (w : World) (h : SlA .i8 2 w v n f) :
    Calls Tryz.prog 20 #[.agg #[.int .i8 col, v]] w fun e w' => e = .returned (.string (tx (markTx col f n))) ∧ Below w.heap.size w w' := by
  have HH := Lib.hid h
  have HF := Lib.hid hf
  obtain ⟨a0, cap0, rfl⟩ := h.len
  have HSZ := Lib.hid (fun w2 h => size_spotsM (.slice a0 n cap0) n f w2 h)
  clear h hf
  rcases Bool.eq_false_or_eq_true (inB col 0 2) with hc | hc
  case inr =>
    have HC := Lib.hid (fun w => hc ▸ within_any col 0 2 w)
    rw [markTx_no (by unfold markB; rw [hc]; rfl)]
    clear hc
    go_enter Tryz.func20, Tryz.ntmps20
    go_wp2_with ((go_at_call 57; refine (HC.out _).mono ?_; rintro e w1 ⟨rfl, rfl⟩))
    go_ret
    exact ⟨rfl, by repeat' (first | with_reducible exact Below.refl _ _ | with_reducible assumption | with_reducible refine Below.drew ?_ | with_reducible refine Below.drewN ?_ _ | with_reducible refine Below.alloc ?_ ?_ _ | with_reducible refine Below.setCell ?_ ?_ _ | with_reducible refine Below.setRow ?_ ?_ _ | with_reducible refine below_step (by assumption) ?_ ?_ | (show (_ : Nat) ≤ _; first | omega | (simp <;> omega)))⟩
  have HC := Lib.hid (fun w => hc ▸ within_any col 0 2 w)
  rcases Bool.eq_false_or_eq_true (inB (n : Int) 1 64) with hm | hm
  case inr =>
    have HM := Lib.hid (fun w => hm ▸ within_any (n : Int) 1 64 w)
    rw [markTx_no (by unfold markB; rw [hm, Bool.and_false]; rfl)]
    clear hc hm
    go_enter Tryz.func20, Tryz.ntmps20
    go_wp2_with (first | (go_at_call 57; (with_reducible refine (HC.out _).mono ?_); rintro e w1 ⟨rfl, rfl⟩) | (go_at_call 57; (with_reducible refine (HM.out _).mono ?_); rintro e w1 ⟨rfl, rfl⟩) | (go_at_call 58; refine (HSZ.out _ (HH.out.below (by repeat' (first | with_reducible exact Below.refl _ _ | with_reducible assumption | with_reducible refine Below.drew ?_ | with_reducible refine Below.drewN ?_ _ | with_reducible refine Below.alloc ?_ ?_ _ | with_reducible refine Below.setCell ?_ ?_ _ | with_reducible refine Below.setRow ?_ ?_ _ | with_reducible refine below_step (by assumption) ?_ ?_ | (show (_ : Nat) ≤ _; first | omega | (simp <;> omega)))) (Nat.le_refl _))).mono ?_; rintro e w1 ⟨rfl, rfl⟩))
    go_ret
    exact ⟨rfl, by repeat' (first | with_reducible exact Below.refl _ _ | with_reducible assumption | with_reducible refine Below.drew ?_ | with_reducible refine Below.drewN ?_ _ | with_reducible refine Below.alloc ?_ ?_ _ | with_reducible refine Below.setCell ?_ ?_ _ | with_reducible refine Below.setRow ?_ ?_ _ | with_reducible refine below_step (by assumption) ?_ ?_ | (show (_ : Nat) ≤ _; first | omega | (simp <;> omega)))⟩
  have HM := Lib.hid (fun w => hm ▸ within_any (n : Int) 1 64 w)
  obtain ⟨n1, n64⟩ := inB_true.1 hm
  have HV := Lib.hid (show markB col f n = cells8 f n from by unfold markB; rw [hc, hm]; rfl)
  have h3 := three hc
  clear hm
  rcases h3 with rfl | rfl | rfl
  case inl =>
    clear hc
    go_enter Tryz.func20, Tryz.ntmps20
    go_wp2_with (first | (go_at_call 57; (with_reducible refine (HC.out _).mono ?_); rintro e w1 ⟨rfl, rfl⟩) | (go_at_call 57; (with_reducible refine (HM.out _).mono ?_); rintro e w1 ⟨rfl, rfl⟩) | (go_at_call 58; refine (HSZ.out _ (HH.out.below (by repeat' (first | with_reducible exact Below.refl _ _ | with_reducible assumption | with_reducible refine Below.drew ?_ | with_reducible refine Below.drewN ?_ _ | with_reducible refine Below.alloc ?_ ?_ _ | with_reducible refine Below.setCell ?_ ?_ _ | with_reducible refine Below.setRow ?_ ?_ _ | with_reducible refine below_step (by assumption) ?_ ?_ | (show (_ : Nat) ≤ _; first | omega | (simp <;> omega)))) (Nat.le_refl _))).mono ?_; rintro e w1 ⟨rfl, rfl⟩))
    go_loopw [25, 3] (fun i s wr => ∃ (k : Nat) (acc : List UInt8), k ≤ n ∧ i = .int .i64 k ∧ s = .string (tx acc) ∧ acc = [by8 (97 + 0)] ++ cellsTx f k ∧ CellsTo f k ∧ Below w.heap.size w wr) (fun i s wr => n - (intOf i).toNat)
    case atStart => exact ⟨0, _, by omega, rfl, by kernel_rfl, rfl, fun i hi => absurd hi (by omega), by repeat' (first | with_reducible exact Below.refl _ _ | with_reducible assumption | with_reducible refine Below.drew ?_ | with_reducible refine Below.drewN ?_ _ | with_reducible refine Below.alloc ?_ ?_ _ | with_reducible refine Below.setCell ?_ ?_ _ | with_reducible refine Below.setRow ?_ ?_ _ | with_reducible refine below_step (by assumption) ?_ ?_ | (show (_ : Nat) ≤ _; first | omega | (simp <;> omega)))⟩
    case round =>
      obtain ⟨k, acc, hk, rfl, rfl, hacc, hto, hb⟩ := hrel
      have hal : acc.length ≤ 4 * k + 1 := by rw [hacc, List.length_append, cellsTx_len]; simp; omega
      have HA := Lib.hid hacc
      have HT := Lib.hid hto
      clear hacc hto
      have hsz := hb.size
      by_cases hlt : k < n
      · obtain ⟨g, o, cap', hv, hg, hcells⟩ := HH.out.pos (by omega)
        simp only [Value.slice.injEq] at hv
        obtain ⟨rfl, -, rfl⟩ := hv
        have hr1 := keep_row hb hg
        have hw1 : g < wr.heap.size := Nat.lt_of_lt_of_le hg hsz
        have e1 := hcells (k * 2) (by omega)
        have e2 := hcells (k * 2 + 1) (by omega)
        rw [← hr1] at e1 e2
        rw [← Nat.add_assoc] at e2
        have hx := HF.out (k * 2) (by omega)
        have hy := HF.out (k * 2 + 1) (by omega)
        have HNX := Lib.hid (show cellsTx f (k + 1) = cellsTx f k ++ ([32] ++ [by8 (48 + f (k * 2))] ++ [44] ++ [by8 (48 + f (k * 2 + 1))]) from rfl)
        have HN8 := Lib.hid (fun h => cells8_next (k := k) HT.out h)
        have HNO := Lib.hid (fun h => (markTx_no (HV.out.trans (cells8_no (f := f) hlt h))))
        clear hcells hr1
        generalize f (k * 2) = x at *
        generalize f (k * 2 + 1) = y at *
        rcases Bool.eq_false_or_eq_true (inB x 0 7) with h1 | h1
        case inr =>
          have HX := Lib.hid (fun w => h1 ▸ within_any x 0 7 w)
          have HE := Lib.hid (HNO.out (fun h => by have := (inB_false.1 h1); omega))
          clear h1
          go_wp2_with (go_at_call 57; (with_reducible refine (HX.out _).mono ?_); rintro e w1 ⟨rfl, rfl⟩)
          go_ret
          exact ⟨by rw [HE.out]; rfl, by repeat' (first | with_reducible exact Below.refl _ _ | with_reducible assumption | with_reducible refine Below.drew ?_ | with_reducible refine Below.drewN ?_ _ | with_reducible refine Below.alloc ?_ ?_ _ | with_reducible refine Below.setCell ?_ ?_ _ | with_reducible refine Below.setRow ?_ ?_ _ | with_reducible refine below_step (by assumption) ?_ ?_ | (show (_ : Nat) ≤ _; first | omega | (simp <;> omega)))⟩
        rcases Bool.eq_false_or_eq_true (inB y 0 7) with h2 | h2
        case inr =>
          have HX := Lib.hid (fun w => h1 ▸ within_any x 0 7 w)
          have HY := Lib.hid (fun w => h2 ▸ within_any y 0 7 w)
          have HE := Lib.hid (HNO.out (fun h => by have := (inB_false.1 h2); omega))
          clear h1 h2
          go_wp2_with (first | (go_at_call 57; (with_reducible refine (HX.out _).mono ?_); rintro e w1 ⟨rfl, rfl⟩) | (go_at_call 57; (with_reducible refine (HY.out _).mono ?_); rintro e w1 ⟨rfl, rfl⟩))
          go_ret
          exact ⟨by rw [HE.out]; rfl, by repeat' (first | with_reducible exact Below.refl _ _ | with_reducible assumption | with_reducible refine Below.drew ?_ | with_reducible refine Below.drewN ?_ _ | with_reducible refine Below.alloc ?_ ?_ _ | with_reducible refine Below.setCell ?_ ?_ _ | with_reducible refine Below.setRow ?_ ?_ _ | with_reducible refine below_step (by assumption) ?_ ?_ | (show (_ : Nat) ≤ _; first | omega | (simp <;> omega)))⟩
        have hx7 := inB_true.1 h1
        have hy7 := inB_true.1 h2
        obtain ⟨x', rfl⟩ : ∃ x' : Nat, x = x' := ⟨x.toNat, by omega⟩
        obtain ⟨y', rfl⟩ : ∃ y' : Nat, y = y' := ⟨y.toNat, by omega⟩
        have HX := Lib.hid (fun w => h1 ▸ within_any (x' : Int) 0 7 w)
        have HY := Lib.hid (fun w => h2 ▸ within_any (y' : Int) 0 7 w)
        have HDX := Lib.hid (fun w => decimal_d x' (by omega) w)
        have HDY := Lib.hid (fun w => decimal_d y' (by omega) w)
        clear h1 h2
        go_wp2_with (first | (go_at_call 57; (with_reducible refine (HX.out _).mono ?_); rintro e w1 ⟨rfl, rfl⟩) | (go_at_call 57; (with_reducible refine (HY.out _).mono ?_); rintro e w1 ⟨rfl, rfl⟩))
        have hwx : IntKind.i64.wrap (x' : Int) = (x' : Int) := IntWalk.i64_in _ (by omega)
        have hwy : IntKind.i64.wrap (y' : Int) = (y' : Int) := IntWalk.i64_in _ (by omega)
        generalize by8 (48 + (x' : Int)) = bx at *
        generalize by8 (48 + (y' : Int)) = bz at *
        go_quiet ((go_at_call 67; first | (with_reducible exact Calls.quiet_of_same (HDX.out _)) | (with_reducible exact Calls.quiet_of_same (HDY.out _))))
        go_wp2
        go_roundw
        case rel => first | exact ⟨k + 1, _, by omega, by go_num, rfl, by rw [HA.out, HNX.out]; simp, HN8.out ⟨hx7, hy7⟩, by repeat' (first | with_reducible exact Below.refl _ _ | with_reducible assumption | with_reducible refine Below.drew ?_ | with_reducible refine Below.drewN ?_ _ | with_reducible refine Below.alloc ?_ ?_ _ | with_reducible refine Below.setCell ?_ ?_ _ | with_reducible refine Below.setRow ?_ ?_ _ | with_reducible refine below_step (by assumption) ?_ ?_ | (show (_ : Nat) ≤ _; first | omega | (simp <;> omega)))⟩ | ((repeat (with_reducible apply Exists.intro)); refine And.intro ?_ ?_; rotate_left; (focus ((repeat' (with_reducible apply And.intro)) <;> rfl)); exact ⟨k + 1, _, by omega, by go_num, rfl, by rw [HA.out, HNX.out]; simp, HN8.out ⟨hx7, hy7⟩, by repeat' (first | with_reducible exact Below.refl _ _ | with_reducible assumption | with_reducible refine Below.drew ?_ | with_reducible refine Below.drewN ?_ _ | with_reducible refine Below.alloc ?_ ?_ _ | with_reducible refine Below.setCell ?_ ?_ _ | with_reducible refine Below.setRow ?_ ?_ _ | with_reducible refine below_step (by assumption) ?_ ?_ | (show (_ : Nat) ≤ _; first | omega | (simp <;> omega)))⟩)
        case measure => simp [intOf]; omega
      · have hke : k = n := by omega
        subst hke
        have HE := Lib.hid (show markTx 0 f k = acc by rw [markTx_yes (HV.out.trans (cells8_yes HT.out)), HA.out])
        go_wp2
        go_ret
        exact ⟨by rw [HE.out]; rfl, by repeat' (first | with_reducible exact Below.refl _ _ | with_reducible assumption | with_reducible refine Below.drew ?_ | with_reducible refine Below.drewN ?_ _ | with_reducible refine Below.alloc ?_ ?_ _ | with_reducible refine Below.setCell ?_ ?_ _ | with_reducible refine Below.setRow ?_ ?_ _ | with_reducible refine below_step (by assumption) ?_ ?_ | (show (_ : Nat) ≤ _; first | omega | (simp <;> omega)))⟩
  case inr.inl =>
    clear hc
    go_enter Tryz.func20, Tryz.ntmps20
    go_wp2_with (first | (go_at_call 57; (with_reducible refine (HC.out _).mono ?_); rintro e w1 ⟨rfl, rfl⟩) | (go_at_call 57; (with_reducible refine (HM.out _).mono ?_); rintro e w1 ⟨rfl, rfl⟩) | (go_at_call 58; refine (HSZ.out _ (HH.out.below (by repeat' (first | with_reducible exact Below.refl _ _ | with_reducible assumption | with_reducible refine Below.drew ?_ | with_reducible refine Below.drewN ?_ _ | with_reducible refine Below.alloc ?_ ?_ _ | with_reducible refine Below.setCell ?_ ?_ _ | with_reducible refine Below.setRow ?_ ?_ _ | with_reducible refine below_step (by assumption) ?_ ?_ | (show (_ : Nat) ≤ _; first | omega | (simp <;> omega)))) (Nat.le_refl _))).mono ?_; rintro e w1 ⟨rfl, rfl⟩))
    go_loopw [25, 3] (fun i s wr => ∃ (k : Nat) (acc : List UInt8), k ≤ n ∧ i = .int .i64 k ∧ s = .string (tx acc) ∧ acc = [by8 (97 + 1)] ++ cellsTx f k ∧ CellsTo f k ∧ Below w.heap.size w wr) (fun i s wr => n - (intOf i).toNat)
    case atStart => exact ⟨0, _, by omega, rfl, by kernel_rfl, rfl, fun i hi => absurd hi (by omega), by repeat' (first | with_reducible exact Below.refl _ _ | with_reducible assumption | with_reducible refine Below.drew ?_ | with_reducible refine Below.drewN ?_ _ | with_reducible refine Below.alloc ?_ ?_ _ | with_reducible refine Below.setCell ?_ ?_ _ | with_reducible refine Below.setRow ?_ ?_ _ | with_reducible refine below_step (by assumption) ?_ ?_ | (show (_ : Nat) ≤ _; first | omega | (simp <;> omega)))⟩
    case round =>
      obtain ⟨k, acc, hk, rfl, rfl, hacc, hto, hb⟩ := hrel
      have hal : acc.length ≤ 4 * k + 1 := by rw [hacc, List.length_append, cellsTx_len]; simp; omega
      have HA := Lib.hid hacc
      have HT := Lib.hid hto
      clear hacc hto
      have hsz := hb.size
      by_cases hlt : k < n
      · obtain ⟨g, o, cap', hv, hg, hcells⟩ := HH.out.pos (by omega)
        simp only [Value.slice.injEq] at hv
        obtain ⟨rfl, -, rfl⟩ := hv
        have hr1 := keep_row hb hg
        have hw1 : g < wr.heap.size := Nat.lt_of_lt_of_le hg hsz
        have e1 := hcells (k * 2) (by omega)
        have e2 := hcells (k * 2 + 1) (by omega)
        rw [← hr1] at e1 e2
        rw [← Nat.add_assoc] at e2
        have hx := HF.out (k * 2) (by omega)
        have hy := HF.out (k * 2 + 1) (by omega)
        have HNX := Lib.hid (show cellsTx f (k + 1) = cellsTx f k ++ ([32] ++ [by8 (48 + f (k * 2))] ++ [44] ++ [by8 (48 + f (k * 2 + 1))]) from rfl)
        have HN8 := Lib.hid (fun h => cells8_next (k := k) HT.out h)
        have HNO := Lib.hid (fun h => (markTx_no (HV.out.trans (cells8_no (f := f) hlt h))))
        clear hcells hr1
        generalize f (k * 2) = x at *
        generalize f (k * 2 + 1) = y at *
        rcases Bool.eq_false_or_eq_true (inB x 0 7) with h1 | h1
        case inr =>
          have HX := Lib.hid (fun w => h1 ▸ within_any x 0 7 w)
          have HE := Lib.hid (HNO.out (fun h => by have := (inB_false.1 h1); omega))
          clear h1
          go_wp2_with (go_at_call 57; (with_reducible refine (HX.out _).mono ?_); rintro e w1 ⟨rfl, rfl⟩)
          go_ret
          exact ⟨by rw [HE.out]; rfl, by repeat' (first | with_reducible exact Below.refl _ _ | with_reducible assumption | with_reducible refine Below.drew ?_ | with_reducible refine Below.drewN ?_ _ | with_reducible refine Below.alloc ?_ ?_ _ | with_reducible refine Below.setCell ?_ ?_ _ | with_reducible refine Below.setRow ?_ ?_ _ | with_reducible refine below_step (by assumption) ?_ ?_ | (show (_ : Nat) ≤ _; first | omega | (simp <;> omega)))⟩
        rcases Bool.eq_false_or_eq_true (inB y 0 7) with h2 | h2
        case inr =>
          have HX := Lib.hid (fun w => h1 ▸ within_any x 0 7 w)
          have HY := Lib.hid (fun w => h2 ▸ within_any y 0 7 w)
          have HE := Lib.hid (HNO.out (fun h => by have := (inB_false.1 h2); omega))
          clear h1 h2
          go_wp2_with (first | (go_at_call 57; (with_reducible refine (HX.out _).mono ?_); rintro e w1 ⟨rfl, rfl⟩) | (go_at_call 57; (with_reducible refine (HY.out _).mono ?_); rintro e w1 ⟨rfl, rfl⟩))
          go_ret
          exact ⟨by rw [HE.out]; rfl, by repeat' (first | with_reducible exact Below.refl _ _ | with_reducible assumption | with_reducible refine Below.drew ?_ | with_reducible refine Below.drewN ?_ _ | with_reducible refine Below.alloc ?_ ?_ _ | with_reducible refine Below.setCell ?_ ?_ _ | with_reducible refine Below.setRow ?_ ?_ _ | with_reducible refine below_step (by assumption) ?_ ?_ | (show (_ : Nat) ≤ _; first | omega | (simp <;> omega)))⟩
        have hx7 := inB_true.1 h1
        have hy7 := inB_true.1 h2
        obtain ⟨x', rfl⟩ : ∃ x' : Nat, x = x' := ⟨x.toNat, by omega⟩
        obtain ⟨y', rfl⟩ : ∃ y' : Nat, y = y' := ⟨y.toNat, by omega⟩
        have HX := Lib.hid (fun w => h1 ▸ within_any (x' : Int) 0 7 w)
        have HY := Lib.hid (fun w => h2 ▸ within_any (y' : Int) 0 7 w)
        have HDX := Lib.hid (fun w => decimal_d x' (by omega) w)
        have HDY := Lib.hid (fun w => decimal_d y' (by omega) w)
        clear h1 h2
        go_wp2_with (first | (go_at_call 57; (with_reducible refine (HX.out _).mono ?_); rintro e w1 ⟨rfl, rfl⟩) | (go_at_call 57; (with_reducible refine (HY.out _).mono ?_); rintro e w1 ⟨rfl, rfl⟩))
        have hwx : IntKind.i64.wrap (x' : Int) = (x' : Int) := IntWalk.i64_in _ (by omega)
        have hwy : IntKind.i64.wrap (y' : Int) = (y' : Int) := IntWalk.i64_in _ (by omega)
        generalize by8 (48 + (x' : Int)) = bx at *
        generalize by8 (48 + (y' : Int)) = bz at *
        go_quiet ((go_at_call 67; first | (with_reducible exact Calls.quiet_of_same (HDX.out _)) | (with_reducible exact Calls.quiet_of_same (HDY.out _))))
        go_wp2
        go_roundw
        case rel => first | exact ⟨k + 1, _, by omega, by go_num, rfl, by rw [HA.out, HNX.out]; simp, HN8.out ⟨hx7, hy7⟩, by repeat' (first | with_reducible exact Below.refl _ _ | with_reducible assumption | with_reducible refine Below.drew ?_ | with_reducible refine Below.drewN ?_ _ | with_reducible refine Below.alloc ?_ ?_ _ | with_reducible refine Below.setCell ?_ ?_ _ | with_reducible refine Below.setRow ?_ ?_ _ | with_reducible refine below_step (by assumption) ?_ ?_ | (show (_ : Nat) ≤ _; first | omega | (simp <;> omega)))⟩ | ((repeat (with_reducible apply Exists.intro)); refine And.intro ?_ ?_; rotate_left; (focus ((repeat' (with_reducible apply And.intro)) <;> rfl)); exact ⟨k + 1, _, by omega, by go_num, rfl, by rw [HA.out, HNX.out]; simp, HN8.out ⟨hx7, hy7⟩, by repeat' (first | with_reducible exact Below.refl _ _ | with_reducible assumption | with_reducible refine Below.drew ?_ | with_reducible refine Below.drewN ?_ _ | with_reducible refine Below.alloc ?_ ?_ _ | with_reducible refine Below.setCell ?_ ?_ _ | with_reducible refine Below.setRow ?_ ?_ _ | with_reducible refine below_step (by assumption) ?_ ?_ | (show (_ : Nat) ≤ _; first | omega | (simp <;> omega)))⟩)
        case measure => simp [intOf]; omega
      · have hke : k = n := by omega
        subst hke
        have HE := Lib.hid (show markTx 1 f k = acc by rw [markTx_yes (HV.out.trans (cells8_yes HT.out)), HA.out])
        go_wp2
        go_ret
        exact ⟨by rw [HE.out]; rfl, by repeat' (first | with_reducible exact Below.refl _ _ | with_reducible assumption | with_reducible refine Below.drew ?_ | with_reducible refine Below.drewN ?_ _ | with_reducible refine Below.alloc ?_ ?_ _ | with_reducible refine Below.setCell ?_ ?_ _ | with_reducible refine Below.setRow ?_ ?_ _ | with_reducible refine below_step (by assumption) ?_ ?_ | (show (_ : Nat) ≤ _; first | omega | (simp <;> omega)))⟩
  case inr.inr =>
    clear hc
    go_enter Tryz.func20, Tryz.ntmps20
    go_wp2_with (first | (go_at_call 57; (with_reducible refine (HC.out _).mono ?_); rintro e w1 ⟨rfl, rfl⟩) | (go_at_call 57; (with_reducible refine (HM.out _).mono ?_); rintro e w1 ⟨rfl, rfl⟩) | (go_at_call 58; refine (HSZ.out _ (HH.out.below (by repeat' (first | with_reducible exact Below.refl _ _ | with_reducible assumption | with_reducible refine Below.drew ?_ | with_reducible refine Below.drewN ?_ _ | with_reducible refine Below.alloc ?_ ?_ _ | with_reducible refine Below.setCell ?_ ?_ _ | with_reducible refine Below.setRow ?_ ?_ _ | with_reducible refine below_step (by assumption) ?_ ?_ | (show (_ : Nat) ≤ _; first | omega | (simp <;> omega)))) (Nat.le_refl _))).mono ?_; rintro e w1 ⟨rfl, rfl⟩))
    go_loopw [25, 3] (fun i s wr => ∃ (k : Nat) (acc : List UInt8), k ≤ n ∧ i = .int .i64 k ∧ s = .string (tx acc) ∧ acc = [by8 (97 + 2)] ++ cellsTx f k ∧ CellsTo f k ∧ Below w.heap.size w wr) (fun i s wr => n - (intOf i).toNat)
    case atStart => exact ⟨0, _, by omega, rfl, by kernel_rfl, rfl, fun i hi => absurd hi (by omega), by repeat' (first | with_reducible exact Below.refl _ _ | with_reducible assumption | with_reducible refine Below.drew ?_ | with_reducible refine Below.drewN ?_ _ | with_reducible refine Below.alloc ?_ ?_ _ | with_reducible refine Below.setCell ?_ ?_ _ | with_reducible refine Below.setRow ?_ ?_ _ | with_reducible refine below_step (by assumption) ?_ ?_ | (show (_ : Nat) ≤ _; first | omega | (simp <;> omega)))⟩
    case round =>
      obtain ⟨k, acc, hk, rfl, rfl, hacc, hto, hb⟩ := hrel
      have hal : acc.length ≤ 4 * k + 1 := by rw [hacc, List.length_append, cellsTx_len]; simp; omega
      have HA := Lib.hid hacc
      have HT := Lib.hid hto
      clear hacc hto
      have hsz := hb.size
      by_cases hlt : k < n
      · obtain ⟨g, o, cap', hv, hg, hcells⟩ := HH.out.pos (by omega)
        simp only [Value.slice.injEq] at hv
        obtain ⟨rfl, -, rfl⟩ := hv
        have hr1 := keep_row hb hg
        have hw1 : g < wr.heap.size := Nat.lt_of_lt_of_le hg hsz
        have e1 := hcells (k * 2) (by omega)
        have e2 := hcells (k * 2 + 1) (by omega)
        rw [← hr1] at e1 e2
        rw [← Nat.add_assoc] at e2
        have hx := HF.out (k * 2) (by omega)
        have hy := HF.out (k * 2 + 1) (by omega)
        have HNX := Lib.hid (show cellsTx f (k + 1) = cellsTx f k ++ ([32] ++ [by8 (48 + f (k * 2))] ++ [44] ++ [by8 (48 + f (k * 2 + 1))]) from rfl)
        have HN8 := Lib.hid (fun h => cells8_next (k := k) HT.out h)
        have HNO := Lib.hid (fun h => (markTx_no (HV.out.trans (cells8_no (f := f) hlt h))))
        clear hcells hr1
        generalize f (k * 2) = x at *
        generalize f (k * 2 + 1) = y at *
        rcases Bool.eq_false_or_eq_true (inB x 0 7) with h1 | h1
        case inr =>
          have HX := Lib.hid (fun w => h1 ▸ within_any x 0 7 w)
          have HE := Lib.hid (HNO.out (fun h => by have := (inB_false.1 h1); omega))
          clear h1
          go_wp2_with (go_at_call 57; (with_reducible refine (HX.out _).mono ?_); rintro e w1 ⟨rfl, rfl⟩)
          go_ret
          exact ⟨by rw [HE.out]; rfl, by repeat' (first | with_reducible exact Below.refl _ _ | with_reducible assumption | with_reducible refine Below.drew ?_ | with_reducible refine Below.drewN ?_ _ | with_reducible refine Below.alloc ?_ ?_ _ | with_reducible refine Below.setCell ?_ ?_ _ | with_reducible refine Below.setRow ?_ ?_ _ | with_reducible refine below_step (by assumption) ?_ ?_ | (show (_ : Nat) ≤ _; first | omega | (simp <;> omega)))⟩
        rcases Bool.eq_false_or_eq_true (inB y 0 7) with h2 | h2
        case inr =>
          have HX := Lib.hid (fun w => h1 ▸ within_any x 0 7 w)
          have HY := Lib.hid (fun w => h2 ▸ within_any y 0 7 w)
          have HE := Lib.hid (HNO.out (fun h => by have := (inB_false.1 h2); omega))
          clear h1 h2
          go_wp2_with (first | (go_at_call 57; (with_reducible refine (HX.out _).mono ?_); rintro e w1 ⟨rfl, rfl⟩) | (go_at_call 57; (with_reducible refine (HY.out _).mono ?_); rintro e w1 ⟨rfl, rfl⟩))
          go_ret
          exact ⟨by rw [HE.out]; rfl, by repeat' (first | with_reducible exact Below.refl _ _ | with_reducible assumption | with_reducible refine Below.drew ?_ | with_reducible refine Below.drewN ?_ _ | with_reducible refine Below.alloc ?_ ?_ _ | with_reducible refine Below.setCell ?_ ?_ _ | with_reducible refine Below.setRow ?_ ?_ _ | with_reducible refine below_step (by assumption) ?_ ?_ | (show (_ : Nat) ≤ _; first | omega | (simp <;> omega)))⟩
        have hx7 := inB_true.1 h1
        have hy7 := inB_true.1 h2
        obtain ⟨x', rfl⟩ : ∃ x' : Nat, x = x' := ⟨x.toNat, by omega⟩
        obtain ⟨y', rfl⟩ : ∃ y' : Nat, y = y' := ⟨y.toNat, by omega⟩
        have HX := Lib.hid (fun w => h1 ▸ within_any (x' : Int) 0 7 w)
        have HY := Lib.hid (fun w => h2 ▸ within_any (y' : Int) 0 7 w)
        have HDX := Lib.hid (fun w => decimal_d x' (by omega) w)
        have HDY := Lib.hid (fun w => decimal_d y' (by omega) w)
        clear h1 h2
        go_wp2_with (first | (go_at_call 57; (with_reducible refine (HX.out _).mono ?_); rintro e w1 ⟨rfl, rfl⟩) | (go_at_call 57; (with_reducible refine (HY.out _).mono ?_); rintro e w1 ⟨rfl, rfl⟩))
        have hwx : IntKind.i64.wrap (x' : Int) = (x' : Int) := IntWalk.i64_in _ (by omega)
        have hwy : IntKind.i64.wrap (y' : Int) = (y' : Int) := IntWalk.i64_in _ (by omega)
        generalize by8 (48 + (x' : Int)) = bx at *
        generalize by8 (48 + (y' : Int)) = bz at *
        go_quiet ((go_at_call 67; first | (with_reducible exact Calls.quiet_of_same (HDX.out _)) | (with_reducible exact Calls.quiet_of_same (HDY.out _))))
        go_wp2
        go_roundw
        case rel => first | exact ⟨k + 1, _, by omega, by go_num, rfl, by rw [HA.out, HNX.out]; simp, HN8.out ⟨hx7, hy7⟩, by repeat' (first | with_reducible exact Below.refl _ _ | with_reducible assumption | with_reducible refine Below.drew ?_ | with_reducible refine Below.drewN ?_ _ | with_reducible refine Below.alloc ?_ ?_ _ | with_reducible refine Below.setCell ?_ ?_ _ | with_reducible refine Below.setRow ?_ ?_ _ | with_reducible refine below_step (by assumption) ?_ ?_ | (show (_ : Nat) ≤ _; first | omega | (simp <;> omega)))⟩ | ((repeat (with_reducible apply Exists.intro)); refine And.intro ?_ ?_; rotate_left; (focus ((repeat' (with_reducible apply And.intro)) <;> rfl)); exact ⟨k + 1, _, by omega, by go_num, rfl, by rw [HA.out, HNX.out]; simp, HN8.out ⟨hx7, hy7⟩, by repeat' (first | with_reducible exact Below.refl _ _ | with_reducible assumption | with_reducible refine Below.drew ?_ | with_reducible refine Below.drewN ?_ _ | with_reducible refine Below.alloc ?_ ?_ _ | with_reducible refine Below.setCell ?_ ?_ _ | with_reducible refine Below.setRow ?_ ?_ _ | with_reducible refine below_step (by assumption) ?_ ?_ | (show (_ : Nat) ≤ _; first | omega | (simp <;> omega)))⟩)
        case measure => simp [intOf]; omega
      · have hke : k = n := by omega
        subst hke
        have HE := Lib.hid (show markTx 2 f k = acc by rw [markTx_yes (HV.out.trans (cells8_yes HT.out)), HA.out])
        go_wp2
        go_ret
        exact ⟨by rw [HE.out]; rfl, by repeat' (first | with_reducible exact Below.refl _ _ | with_reducible assumption | with_reducible refine Below.drew ?_ | with_reducible refine Below.drewN ?_ _ | with_reducible refine Below.alloc ?_ ?_ _ | with_reducible refine Below.setCell ?_ ?_ _ | with_reducible refine Below.setRow ?_ ?_ _ | with_reducible refine below_step (by assumption) ?_ ?_ | (show (_ : Nat) ≤ _; first | omega | (simp <;> omega)))⟩
end Go.Proofs.YtejnejplofddnaaGreatDoor
/- The text of a mark: the reference. -/
namespace Go.Proofs.YtejnejplofddnaaGreatDoor
open Go.RowKit
set_option linter.unusedVariables false
set_option linter.unusedSimpArgs false
set_option maxRecDepth 100000
theorem markB_bad {col : Int} {f : Nat → Int} {n k : Nat} (hk : k < n) (h : ¬ ((0 ≤ f (k * 2) ∧ f (k * 2) ≤ 7) ∧ 0 ≤ f (k * 2 + 1) ∧ f (k * 2 + 1) ≤ 7)) : markB col f n = false := by unfold markB; rw [cells8_no hk h, Bool.and_false]
theorem markB_good {col : Int} {f : Nat → Int} {n : Nat} (h : CellsTo f n) : markB col f n = (inB col 0 2 && inB (n : Int) 1 64) := by unfold markB; rw [cells8_yes h, Bool.and_true]
end Go.Proofs.YtejnejplofddnaaGreatDoor
/- The text of folds: what both sides write, and the reference. -/
namespace Go.Proofs.YtejnejplofddnaaGreatDoor
open Go.RowKit
set_option linter.unusedVariables false
set_option linter.unusedSimpArgs false
set_option maxRecDepth 100000
def kindB (d : Bool) : UInt8 := if d then 104 else 118
def foldTx (x : Fd) : List UInt8 := [kindB x.d, by8 (48 + x.a), 47, by8 (48 + x.p)]
def foldsTx (F : Nat → Fd) : Nat → List UInt8
  | 0 => []
  | k + 1 => foldsTx F k ++ ((if k = 0 then [] else [32]) ++ foldTx (F k))
theorem foldsTx_len (F : Nat → Fd) : ∀ k, (foldsTx F k).length ≤ 5 * k
  | 0 => Nat.le_refl _
  | k + 1 => by
    have := foldsTx_len F k
    show (foldsTx F k ++ _).length ≤ _
    rw [List.length_append, List.length_append]
    have : (foldTx (F k)).length = 4 := rfl
    split <;> simp <;> omega
def FoTo (F : Nat → Fd) (n : Nat) : Prop := ∀ k, k < n → (1 ≤ (F k).a ∧ (F k).a ≤ 7) ∧ 1 ≤ (F k).p ∧ (F k).p ≤ 8
open Classical in
noncomputable def foB (F : Nat → Fd) (n : Nat) : Bool := decide (FoTo F n) && decide (n ≤ 30)
noncomputable def fTx (F : Nat → Fd) (n : Nat) : List UInt8 := if foB F n = true then foldsTx F n else []
open Classical in
theorem fTx_bad {F : Nat → Fd} {n k : Nat} (hk : k < n) (h : ¬ ((1 ≤ (F k).a ∧ (F k).a ≤ 7) ∧ 1 ≤ (F k).p ∧ (F k).p ≤ 8)) : fTx F n = [] := if_neg (by unfold foB; rw [decide_eq_false (fun g => h (g k hk))]; simp)
open Classical in
theorem fTx_long {F : Nat → Fd} {n : Nat} (h : 30 < n) : fTx F n = [] := if_neg (by unfold foB; rw [decide_eq_false (p := n ≤ 30) (by omega)]; simp)
open Classical in
theorem fTx_yes {F : Nat → Fd} {n : Nat} (h : FoTo F n) (h2 : n ≤ 30) : fTx F n = foldsTx F n := if_pos (by unfold foB; rw [decide_eq_true h, decide_eq_true h2]; rfl)
theorem fo_next {F : Nat → Fd} {k : Nat} (h : FoTo F k) (g : (1 ≤ (F k).a ∧ (F k).a ≤ 7) ∧ 1 ≤ (F k).p ∧ (F k).p ≤ 8) : FoTo F (k + 1) := fun i h1 => by
  rcases Nat.lt_succ_iff_lt_or_eq.1 h1 with h2 | rfl
  · exact h i h2
  · exact g
def plainB (x : Fd) : Bool := inB x.a 1 7 && inB x.p 1 8
theorem plainB_true {x : Fd} (h : plainB x = true) : (1 ≤ x.a ∧ x.a ≤ 7) ∧ 1 ≤ x.p ∧ x.p ≤ 8 := by unfold plainB at h; rw [Bool.and_eq_true] at h; exact ⟨inB_true.1 h.1, inB_true.1 h.2⟩
theorem plainB_false {x : Fd} (h : plainB x = false) : ¬ ((1 ≤ x.a ∧ x.a ≤ 7) ∧ 1 ≤ x.p ∧ x.p ≤ 8) := fun g => by unfold plainB at h; rw [inB_true.2 g.1, inB_true.2 g.2] at h; cases h
theorem joinTail_snoc (sep : List UInt8) (r : List (List UInt8)) (y : List UInt8) : Lib.joinTail sep (r ++ [y]) = Lib.joinTail sep r ++ (sep ++ y) := by simp [Lib.joinTail]
theorem join_snoc (sep : List UInt8) (xs : List (List UInt8)) (y : List UInt8) (h : xs ≠ []) : Lib.join (xs ++ [y]) sep = Lib.join xs sep ++ (sep ++ y) := by
  cases xs with
  | nil => exact absurd rfl h
  | cons x r => rw [List.cons_append, Lib.join_cons, Lib.join_cons, joinTail_snoc, List.append_assoc]
def foldW (F : Nat → Fd) : Nat → List (List UInt8)
  | 0 => []
  | k + 1 => foldW F k ++ [foldTx (F k)]
theorem foldW_len (F : Nat → Fd) : ∀ k, (foldW F k).length = k
  | 0 => rfl
  | k + 1 => by show (foldW F k ++ _).length = _; rw [List.length_append, foldW_len F k]; rfl
theorem foldW_join (F : Nat → Fd) : ∀ k, Lib.join (foldW F k) [32] = foldsTx F k
  | 0 => rfl
  | k + 1 => by
    show Lib.join (foldW F k ++ [foldTx (F k)]) [32] = foldsTx F k ++ _
    rcases Nat.eq_zero_or_pos k with rfl | hk
    · rw [if_pos rfl]; show Lib.join [foldTx (F 0)] [32] = _; rw [Lib.join_one]; rfl
    · rw [join_snoc _ _ _ (fun h => by have := congrArg List.length h; rw [foldW_len] at this; simp at this; omega), foldW_join F k, if_neg (by omega)]
end Go.Proofs.YtejnejplofddnaaGreatDoor
