/- What marks show in an order; the orders in which they make a picture. No program. -/
import Derived.Test.YtejnejplofddnaaGreatDoorGqC
import Derived.Test.YtejnejplofddnaaGreatDoorCell
namespace Go.Proofs.YtejnejplofddnaaGreatDoor
open Go.RowKit
set_option linter.unusedVariables false
set_option linter.unusedSimpArgs false
set_option maxRecDepth 100000
/-- The first k places of a mark laid over a grid. -/
def coverK (x : Mk) (k : Nat) (g : Nat → Int) (q : Nat) : Int := if snB x.f k q = true then x.col + 1 else g q
theorem coverK_zero (x : Mk) (g : Nat → Int) : coverK x 0 g = g := rfl
theorem coverK_next (x : Mk) (k : Nat) (g : Nat → Int) : coverK x (k + 1) g = upI (coverK x k g) ((x.f (k * 2 + 1)).toNat * 8 + (x.f (k * 2)).toNat) (x.col + 1) := by
  funext q
  unfold coverK upI
  rw [snB_next]
  by_cases h : q = (x.f (k * 2 + 1)).toNat * 8 + (x.f (k * 2)).toNat
  · have h2 : ((x.f (k * 2 + 1)).toNat * 8 + (x.f (k * 2)).toNat == q) = true := by rw [beq_iff_eq]; exact h.symm
    rw [h2, Bool.or_true, if_pos rfl, if_pos h]
  · have h2 : ((x.f (k * 2 + 1)).toNat * 8 + (x.f (k * 2)).toNat == q) = false := by rw [beq_eq_false_iff_ne]; exact fun e => h e.symm
    rw [h2, Bool.or_false, if_neg h]
/-- The grid that marks make in an order. -/
def pntG (F : Nat → Mk) (l : List Nat) : Nat → Int := l.foldl (fun g i => coverK (F i) (F i).n g) (fun _ => 0)
theorem pntG_nil (F : Nat → Mk) : pntG F [] = fun _ => 0 := rfl
theorem pntG_snoc (F : Nat → Mk) (l : List Nat) (i : Nat) : pntG F (l ++ [i]) = coverK (F i) (F i).n (pntG F l) := by
  unfold pntG
  rw [List.foldl_append]; rfl
theorem cover_in {x : Mk} {k : Nat} {g : Nat → Int} (hx : 0 ≤ x.col ∧ x.col ≤ 2) (hg : ∀ q, 0 ≤ g q ∧ g q ≤ 3) : ∀ q, 0 ≤ coverK x k g q ∧ coverK x k g q ≤ 3 := fun q => by
  unfold coverK
  split
  · omega
  · exact hg q
theorem pnt_in {F : Nat → Mk} : ∀ {l : List Nat}, (∀ i ∈ l, 0 ≤ (F i).col ∧ (F i).col ≤ 2) → ∀ q, 0 ≤ pntG F l q ∧ pntG F l q ≤ 3 := by
  intro l
  unfold pntG
  have key : ∀ (l : List Nat) (g : Nat → Int), (∀ q, 0 ≤ g q ∧ g q ≤ 3) → (∀ i ∈ l, 0 ≤ (F i).col ∧ (F i).col ≤ 2) → ∀ q, 0 ≤ l.foldl (fun g i => coverK (F i) (F i).n g) g q ∧ l.foldl (fun g i => coverK (F i) (F i).n g) g q ≤ 3 := by
    intro l
    induction l with
    | nil => intro g hg _; exact hg
    | cons a r ih => intro g hg h; exact ih _ (cover_in (h a (by simp)) hg) (fun i hi => h i (by simp [hi]))
  exact fun h => key l _ (fun q => by omega) h
/-- What a cell shows. -/
def shP (v : Int) : UInt8 := if v = 0 then 46 else if v = 1 then 97 else if v = 2 then 98 else 99
def chP (c g : Nat → Int) (x y : Nat) : UInt8 := if waxS c x y = true then 119 else shP (g (y * 8 + x))
theorem chP_no {c g : Nat → Int} {x y : Nat} : chP c g x y ≠ 10 := by
  unfold chP shP
  split
  · decide
  · split
    · decide
    · split
      · decide
      · split <;> decide
/-- The orders that go on from one that has been begun, d rounds more. -/
def ordL (ok : List Nat → Bool) (n : Nat) : Nat → List Nat → List (List Nat)
  | 0, l => if ok l = true then [l] else []
  | d + 1, l => (List.range n).flatMap fun i => if i ∈ l then [] else ordL ok n d (l ++ [i])
def ordTo (ok : List Nat → Bool) (n d : Nat) (l : List Nat) (k : Nat) : List (List Nat) := (List.range k).flatMap fun i => if i ∈ l then [] else ordL ok n d (l ++ [i])
theorem ordTo_zero (ok : List Nat → Bool) (n d : Nat) (l : List Nat) : ordTo ok n d l 0 = [] := rfl
theorem ordTo_in {ok : List Nat → Bool} {n d k : Nat} {l : List Nat} (h : k ∈ l) : ordTo ok n d l (k + 1) = ordTo ok n d l k := by
  unfold ordTo
  rw [List.range_succ, List.flatMap_append]
  simp [h]
theorem ordTo_out {ok : List Nat → Bool} {n d k : Nat} {l : List Nat} (h : ¬ k ∈ l) : ordTo ok n d l (k + 1) = ordTo ok n d l k ++ ordL ok n d (l ++ [k]) := by
  unfold ordTo
  rw [List.range_succ, List.flatMap_append]
  simp [h]
theorem ordL_all (ok : List Nat → Bool) (n d : Nat) (l : List Nat) : ordL ok n (d + 1) l = ordTo ok n d l n := rfl
theorem ordL_len {ok : List Nat → Bool} {n : Nat} : ∀ {d : Nat} {l m : List Nat}, m ∈ ordL ok n d l → m.length = l.length + d ∧ ok m = true ∧ ((∀ i ∈ l, i < n) → ∀ i ∈ m, i < n) := by
  intro d
  induction d with
  | zero =>
    intro l m h
    unfold ordL at h
    split at h
    · rename_i hk
      obtain rfl := List.mem_singleton.1 h
      exact ⟨rfl, hk, fun h => h⟩
    · cases h
  | succ d ih =>
    intro l m h
    unfold ordL at h
    obtain ⟨i, hi, h⟩ := List.mem_flatMap.1 h
    split at h
    · cases h
    · obtain ⟨h1, h2, h3⟩ := ih h
      refine ⟨by rw [h1, List.length_append]; simp; omega, h2, fun g => h3 (fun j hj => ?_)⟩
      rcases List.mem_append.1 hj with hj | hj
      · exact g j hj
      · rw [List.mem_singleton.1 hj]; exact List.mem_range.1 hi
/-- How many orders there can be. -/
theorem ordL_few (ok : List Nat → Bool) {n : Nat} (hn : n ≤ 6) : ∀ (d : Nat) (l : List Nat), (ordL ok n d l).length ≤ 6 ^ d
  | 0, l => by unfold ordL; split <;> simp
  | d + 1, l => by
    have key : ∀ k, k ≤ n → (ordTo ok n d l k).length ≤ k * 6 ^ d := by
      intro k
      induction k with
      | zero => intro _; simp [ordTo]
      | succ k ih =>
        intro hk
        have := ih (by omega)
        by_cases hm : k ∈ l
        · rw [ordTo_in hm, Nat.succ_mul]; exact Nat.le_trans this (Nat.le_add_right _ _)
        · rw [ordTo_out hm, List.length_append, Nat.succ_mul]
          have h3 := ordL_few ok hn d (l ++ [k])
          generalize 6 ^ d = P at *
          omega
    rw [ordL_all, Nat.pow_succ]
    have := key n (Nat.le_refl _)
    have h2 : n * 6 ^ d ≤ 6 * 6 ^ d := Nat.mul_le_mul_right _ hn
    omega
end Go.Proofs.YtejnejplofddnaaGreatDoor
