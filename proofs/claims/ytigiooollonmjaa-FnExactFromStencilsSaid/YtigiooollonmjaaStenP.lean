/- The picture that three stencils make: the numbers. -/
import Derived.Test.YtigiooollonmjaaBlank
import Derived.Test.YtigiooollonmjaaPic
namespace Go.Proofs.Ytigiooollonmjaa
open Go.RowKit
set_option linter.unusedVariables false
set_option linter.unusedSimpArgs false
set_option maxRecDepth 100000
/-- A row has the bit x. -/
def bitR (r : Int) (x : Nat) : Bool := bits BinOp.and IntKind.u8 (r / 2 ^ x) 1 == 1
def bitsTable : Bool := (List.range 256).all fun r => (List.range 8).all fun x => (bits BinOp.and IntKind.u8 ((r : Int) / 2 ^ x) 1 == 1) == !(bits BinOp.and IntKind.u8 ((r : Int) / 2 ^ x) 1 == 0)
def bitsTable2 : Bool := (List.range 256).all fun r => (List.range 9).all fun W => ((r : Int) / 2 ^ W == 0) == !((List.range 8).any fun x => decide (W ≤ x) && (bits BinOp.and IntKind.u8 ((r : Int) / 2 ^ x) 1 == 1))
theorem bitsTable_ok : bitsTable = true := by kernel_rfl
theorem bitsTable2_ok : bitsTable2 = true := by kernel_rfl
theorem bit_zero {r : Int} (h0 : 0 ≤ r) (h1 : r ≤ 255) {x : Nat} (hx : x < 8) : (bits BinOp.and IntKind.u8 (r / 2 ^ x) 1 == 0) = !bitR r x := by
  have h := bitsTable_ok
  unfold bitsTable at h
  have := List.all_eq_true.1 (List.all_eq_true.1 h r.toNat (List.mem_range.2 (by omega))) x (List.mem_range.2 hx)
  rw [Int.toNat_of_nonneg h0] at this
  unfold bitR
  have := eq_of_beq this
  rw [this, Bool.not_not]
theorem wide_none {r : Int} (h0 : 0 ≤ r) (h1 : r ≤ 255) {W : Nat} (hW : W ≤ 8) : r / 2 ^ W = 0 ↔ ∀ x, x < 8 → W ≤ x → bitR r x = false := by
  have h := bitsTable2_ok
  unfold bitsTable2 at h
  have := List.all_eq_true.1 (List.all_eq_true.1 h r.toNat (List.mem_range.2 (by omega))) W (List.mem_range.2 (by omega))
  rw [Int.toNat_of_nonneg h0] at this
  have := eq_of_beq this
  constructor
  · intro h2 x hx hWx
    rw [h2] at this
    simp only [beq_self_eq_true, Bool.true_eq, Bool.not_eq_true', List.any_eq_false, List.mem_range, Bool.and_eq_true, decide_eq_true_eq, not_and] at this
    have := this x hx hWx
    unfold bitR
    simpa using this
  · intro h2
    have h3 : ((List.range 8).any fun x => decide (W ≤ x) && (bits BinOp.and IntKind.u8 (r / 2 ^ x) 1 == 1)) = false := by
      rw [List.any_eq_false]
      intro x hx
      have hx := List.mem_range.1 hx
      by_cases hWx : W ≤ x
      · have := h2 x hx hWx
        unfold bitR at this
        simp [this]
      · simp [hWx]
    rw [h3] at this
    simpa using this
/-- Whether the stencil of ink i has the cell m. -/
def bitS (s : Nat → Int) (i m : Nat) : Bool := bitR (s (i * 8 + m / 8)) (m % 8)
def valS (s : Nat → Int) : Nat → Nat → Int
  | 0, _ => 0
  | i + 1, m => if bitS s i m = true then (i : Int) + 1 else valS s i m
theorem valS_in (s : Nat → Int) (i m : Nat) : 0 ≤ valS s i m ∧ valS s i m ≤ i := by
  induction i with
  | zero => exact ⟨Int.le_refl _, Int.le_refl _⟩
  | succ i ih => show 0 ≤ (if bitS s i m = true then (i : Int) + 1 else valS s i m) ∧ (if bitS s i m = true then (i : Int) + 1 else valS s i m) ≤ ((i + 1 : Nat) : Int); split <;> omega
/-- The picture when i inks, and of the next one m cells, have been looked at. -/
def stP (s : Nat → Int) (a b : Int) (i m : Nat) : Nat → Int := fun j => if j = 0 then a else if j = 1 then b else if j - 2 < m then valS s (i + 1) (j - 2) else valS s i (j - 2)
theorem stP_start (s : Nat → Int) (a b : Int) : kc pk 66 (blank a b) = kc pk 66 (stP s a b 0 0) := kc_ext (fun j hj => by unfold blank stP; repeat' split; all_goals first | rfl | omega)
theorem stP_next (s : Nat → Int) (a b : Int) (i : Nat) : kc pk 66 (stP s a b i 64) = kc pk 66 (stP s a b (i + 1) 0) := kc_ext (fun j hj => by unfold stP; repeat' split; all_goals first | rfl | omega)
theorem stP_no {s : Nat → Int} {a b : Int} {i m : Nat} (h : bitS s i m = false) : kc pk 66 (stP s a b i m) = kc pk 66 (stP s a b i (m + 1)) := kc_ext (fun j hj => by
  unfold stP
  by_cases hjm : j - 2 = m
  · split; rfl
    split; rfl
    rw [if_neg (by omega), if_pos (by omega), hjm]
    show _ = (if _ then _ else _)
    rw [if_neg (by simp [h])]
  · split; rfl
    split; rfl
    split
    · rw [if_pos (by omega)]
    · rw [if_neg (by omega)])
theorem stP_yes {s : Nat → Int} {a b : Int} {i m : Nat} (h : bitS s i m = true) (hm : m < 64) : kc pk 66 (upI (stP s a b i m) (2 + m) ((i : Int) + 1)) = kc pk 66 (stP s a b i (m + 1)) := kc_ext (fun j hj => by
  unfold upI stP
  by_cases hjm : j = 2 + m
  · rw [if_pos hjm, if_neg (by omega), if_neg (by omega), if_pos (by omega), show j - 2 = m by omega]
    show _ = (if _ then _ else _)
    rw [if_pos h]
  · rw [if_neg hjm]
    split; rfl
    split; rfl
    split
    · rw [if_pos (by omega)]
    · rw [if_neg (by omega)])
theorem stP_fit {s : Nat → Int} {a b : Int} {i m : Nat} (ha : 1 ≤ a ∧ a ≤ 8) (hb : 1 ≤ b ∧ b ≤ 8) (hi : i ≤ 3) : FitPicture (stP s a b i m) where
  side := fun j hj => by unfold stP; split; omega; rw [if_pos (by omega)]; omega
  cell := fun j h1 h2 => by
    unfold stP
    rw [if_neg (by omega), if_neg (by omega)]
    have := valS_in s i (j - 2)
    have := valS_in s (i + 1) (j - 2)
    split <;> omega
def GoodS (s : Nat → Int) (a b : Int) (i m : Nat) : Prop := bitS s i m = true → ((m % 8 : Nat) : Int) < a ∧ ((m / 8 : Nat) : Int) < b
def AllS (s : Nat → Int) (a b : Int) : Prop := ∀ i, i < 3 → ∀ m, m < 64 → GoodS s a b i m
open Classical in
noncomputable def stenV (s : Nat → Int) (a b : Int) : Value :=
  if inB a 1 8 = true ∧ inB b 1 8 = true ∧ AllS s a b then .tuple #[.agg (kc pk 66 (stP s a b 3 0)), .int .i64 0] else .tuple #[.agg (kc pk 66 fun _ => 0), .int .i64 2]
theorem stenV_no {s : Nat → Int} {a b : Int} (h : ¬ (inB a 1 8 = true ∧ inB b 1 8 = true ∧ AllS s a b)) : stenV s a b = .tuple #[.agg (kc pk 66 fun _ => 0), .int .i64 2] := if_neg h
theorem stenV_yes {s : Nat → Int} {a b : Int} (h : inB a 1 8 = true ∧ inB b 1 8 = true ∧ AllS s a b) : stenV s a b = .tuple #[.agg (kc pk 66 (stP s a b 3 0)), .int .i64 0] := if_pos h
theorem stenV_is (s : Nat → Int) (a b : Int) : ∃ (c : Nat → Int) (z : Int), stenV s a b = .tuple #[.agg (kc pk 66 c), .int .i64 z] := by
  unfold stenV; split <;> exact ⟨_, _, rfl⟩
theorem bitS_at {s : Nat → Int} {i y x : Nat} (hx : x < 8) : bitS s i (y * 8 + x) = bitR (s (i * 8 + y)) x := by
  unfold bitS
  rw [show (y * 8 + x) / 8 = y by omega, show (y * 8 + x) % 8 = x by omega]
theorem goodS_at {s : Nat → Int} {a b : Int} {i y x : Nat} (hx : x < 8) : GoodS s a b i (y * 8 + x) ↔ (bitR (s (i * 8 + y)) x = true → (x : Int) < a ∧ (y : Int) < b) := by
  unfold GoodS
  rw [bitS_at hx, show (y * 8 + x) / 8 = y by omega, show (y * 8 + x) % 8 = x by omega]
/-- What is known on the way: so many inks and cells have been looked at, the picture lies in block B. -/
def StR (s : Nat → Int) (a b : Int) (w : World) (B i m : Nat) (wr : World) : Prop := Below w.heap.size w wr ∧ B + 1 ≤ wr.heap.size ∧ rowOf wr w.heap.size = kc (fun _ => .u8) 24 s ∧ rowOf wr (w.heap.size + 1) = kc pk 66 (fun _ => 0) ∧ frOf wr (w.heap.size + 1) = (0, 0) ∧ rowOf wr B = kc pk 66 (stP s a b i m) ∧ frOf wr B = (0, 0) ∧ (∀ i', i' < i → ∀ m', m' < 64 → GoodS s a b i' m') ∧ ∀ m', m' < m → GoodS s a b i m'
theorem good_step {s : Nat → Int} {a b : Int} {i m : Nat} (h : ∀ m', m' < m → GoodS s a b i m') (g : GoodS s a b i m) : ∀ m', m' < m + 1 → GoodS s a b i m' := fun m' hm => by
  rcases Nat.lt_succ_iff_lt_or_eq.1 hm with h1 | rfl
  · exact h m' h1
  · exact g
theorem good_next {s : Nat → Int} {a b : Int} {i : Nat} (h : ∀ i', i' < i → ∀ m', m' < 64 → GoodS s a b i' m') (g : ∀ m', m' < 64 → GoodS s a b i m') : ∀ i', i' < i + 1 → ∀ m', m' < 64 → GoodS s a b i' m' := fun i' hi => by
  rcases Nat.lt_succ_iff_lt_or_eq.1 hi with h1 | rfl
  · exact h i' h1
  · exact g
end Go.Proofs.Ytigiooollonmjaa
