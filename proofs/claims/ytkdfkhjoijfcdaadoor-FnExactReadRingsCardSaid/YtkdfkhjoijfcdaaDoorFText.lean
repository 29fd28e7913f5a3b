/- The text of folds: what both sides write, and the reference. -/
import Derived.Test.YtkdfkhjoijfcdaaDoorFoldS
import Derived.Test.YtkdfkhjoijfcdaaDoorFold
import Derived.Test.YtkdfkhjoijfcdaaDoorMarkS
import Derived.Lib.Join
namespace Go.Proofs.YtkdfkhjoijfcdaaDoor
open Go.RowKit
set_option linter.unusedVariables false
set_option linter.unusedSimpArgs false
set_option maxRecDepth 100000
def kindB (d : Bool) : UInt8 := if d then 104 else 118
def foldTx (x : Fd) : List UInt8 := [kindB x.d, by8 (48 + x.a), 47, by8 (48 + x.p)]
def foldsTx (F : Nat → Fd) : Nat → List UInt8
  | 0 => []
  | k + 1 => foldsTx F k ++ ((if k = 0 then [] else [32]) ++ foldTx (F k))
theorem foldsTx_len (F : Nat → Fd) : ∀ k, (foldsTx F k).length ≤ 5 * k
  | 0 => Nat.le_refl _
  | k + 1 => by
    have := foldsTx_len F k
    show (foldsTx F k ++ _).length ≤ _
    rw [List.length_append, List.length_append]
    have : (foldTx (F k)).length = 4 := rfl
    split <;> simp <;> omega
def FoTo (F : Nat → Fd) (n : Nat) : Prop := ∀ k, k < n → (1 ≤ (F k).a ∧ (F k).a ≤ 7) ∧ 1 ≤ (F k).p ∧ (F k).p ≤ 8
open Classical in
noncomputable def foB (F : Nat → Fd) (n : Nat) : Bool := decide (FoTo F n) && decide (n ≤ 30)
noncomputable def fTx (F : Nat → Fd) (n : Nat) : List UInt8 := if foB F n = true then foldsTx F n else []
open Classical in
theorem fTx_bad {F : Nat → Fd} {n k : Nat} (hk : k < n) (h : ¬ ((1 ≤ (F k).a ∧ (F k).a ≤ 7) ∧ 1 ≤ (F k).p ∧ (F k).p ≤ 8)) : fTx F n = [] := if_neg (by unfold foB; rw [decide_eq_false (fun g => h (g k hk))]; simp)
open Classical in
theorem fTx_long {F : Nat → Fd} {n : Nat} (h : 30 < n) : fTx F n = [] := if_neg (by unfold foB; rw [decide_eq_false (p := n ≤ 30) (by omega)]; simp)
open Classical in
theorem fTx_yes {F : Nat → Fd} {n : Nat} (h : FoTo F n) (h2 : n ≤ 30) : fTx F n = foldsTx F n := if_pos (by unfold foB; rw [decide_eq_true h, decide_eq_true h2]; rfl)
theorem fo_next {F : Nat → Fd} {k : Nat} (h : FoTo F k) (g : (1 ≤ (F k).a ∧ (F k).a ≤ 7) ∧ 1 ≤ (F k).p ∧ (F k).p ≤ 8) : FoTo F (k + 1) := fun i h1 => by
  rcases Nat.lt_succ_iff_lt_or_eq.1 h1 with h2 | rfl
  · exact h i h2
  · exact g
def plainB (x : Fd) : Bool := inB x.a 1 7 && inB x.p 1 8
theorem plainB_true {x : Fd} (h : plainB x = true) : (1 ≤ x.a ∧ x.a ≤ 7) ∧ 1 ≤ x.p ∧ x.p ≤ 8 := by unfold plainB at h; rw [Bool.and_eq_true] at h; exact ⟨inB_true.1 h.1, inB_true.1 h.2⟩
theorem plainB_false {x : Fd} (h : plainB x = false) : ¬ ((1 ≤ x.a ∧ x.a ≤ 7) ∧ 1 ≤ x.p ∧ x.p ≤ 8) := fun g => by unfold plainB at h; rw [inB_true.2 g.1, inB_true.2 g.2] at h; cases h
theorem joinTail_snoc (sep : List UInt8) (r : List (List UInt8)) (y : List UInt8) : Lib.joinTail sep (r ++ [y]) = Lib.joinTail sep r ++ (sep ++ y) := by simp [Lib.joinTail]
theorem join_snoc (sep : List UInt8) (xs : List (List UInt8)) (y : List UInt8) (h : xs ≠ []) : Lib.join (xs ++ [y]) sep = Lib.join xs sep ++ (sep ++ y) := by
  cases xs with
  | nil => exact absurd rfl h
  | cons x r => rw [List.cons_append, Lib.join_cons, Lib.join_cons, joinTail_snoc, List.append_assoc]
def foldW (F : Nat → Fd) : Nat → List (List UInt8)
  | 0 => []
  | k + 1 => foldW F k ++ [foldTx (F k)]
theorem foldW_len (F : Nat → Fd) : ∀ k, (foldW F k).length = k
  | 0 => rfl
  | k + 1 => by show (foldW F k ++ _).length = _; rw [List.length_append, foldW_len F k]; rfl
theorem foldW_join (F : Nat → Fd) : ∀ k, Lib.join (foldW F k) [32] = foldsTx F k
  | 0 => rfl
  | k + 1 => by
    show Lib.join (foldW F k ++ [foldTx (F k)]) [32] = foldsTx F k ++ _
    rcases Nat.eq_zero_or_pos k with rfl | hk
    · rw [if_pos rfl]; show Lib.join [foldTx (F 0)] [32] = _; rw [Lib.join_one]; rfl
    · rw [join_snoc _ _ _ (fun h => by have := congrArg List.length h; rw [foldW_len] at this; simp at this; omega), foldW_join F k, if_neg (by omega)]
end Go.Proofs.YtkdfkhjoijfcdaaDoor
