/- Lines ended by a byte, and the last end taken off. No program. -/
import Derived.Test.YtejnejplofddnaaGreatDoorSpl
namespace Go.Proofs.YtejnejplofddnaaGreatDoor
open Go.RowKit
set_option linter.unusedVariables false
set_option linter.unusedSimpArgs false
set_option maxRecDepth 100000
/-- Lines ended by a byte. -/
def endl (L : List (List UInt8)) : List UInt8 := (L.map (· ++ [10])).flatten
theorem joinTail_endl : ∀ (L : List (List UInt8)), Lib.joinTail [10] (L ++ [[]]) = 10 :: endl L
  | [] => by simp [Lib.joinTail, endl]
  | x :: r => by
    have h := joinTail_endl r
    have e : Lib.joinTail [10] (x :: r ++ [[]]) = ([10] ++ x) ++ Lib.joinTail [10] (r ++ [[]]) := by simp [Lib.joinTail]
    rw [e, h]
    simp [endl]
theorem join_endl : ∀ (L : List (List UInt8)), Lib.join (L ++ [[]]) [10] = endl L
  | [] => by show Lib.join [[]] [10] = _; rw [Lib.join_one]; rfl
  | x :: r => by
    rw [List.cons_append, Lib.join_cons, joinTail_endl]
    simp [endl]
theorem endl_next {L : List (List UInt8)} {k : Nat} {x : List UInt8} (h : L[k]? = some x) : endl (L.take (k + 1)) = endl (L.take k) ++ (x ++ [10]) := by
  unfold endl
  rw [List.take_add_one, h, List.map_append, List.flatten_append]; simp
def trim (t : List UInt8) : List UInt8 := if t.getLast? = some 10 then t.dropLast else t
theorem endl_last : ∀ {L : List (List UInt8)}, L ≠ [] → (endl L).getLast? = some 10 ∧ (endl L).dropLast = Lib.join L [10] := by
  intro L hL
  have h : endl L = Lib.join L [10] ++ [10] := by
    cases L with
    | nil => exact absurd rfl hL
    | cons x r =>
      rw [← join_endl, List.cons_append, Lib.join_cons, Lib.join_cons, joinTail_snoc]
      simp
  rw [h]
  simp
theorem trim_is (t : List UInt8) : (⟨(Lib.trimSuffix (tx t).data.toList (tx [10]).data.toList).toArray⟩ : ByteArray) = tx (trim t) := by
  show (⟨(Lib.trimSuffix t [10]).toArray⟩ : ByteArray) = ⟨(trim t).toArray⟩
  congr 2
  unfold Lib.trimSuffix Lib.hasSuffix trim
  rcases List.eq_nil_or_concat t with rfl | ⟨r, c, rfl⟩
  · rfl
  · rw [List.concat_eq_append]
    by_cases hc : c = 10
    · subst hc
      simp
    · have h1 : ([10] : List UInt8).isSuffixOf (r ++ [c]) = false := by
        rw [Bool.eq_false_iff]
        intro h
        rw [List.isSuffixOf_iff_suffix] at h
        obtain ⟨q, hq⟩ := h
        have := congrArg List.getLast? hq
        simp at this
        exact hc this.symm
      rw [h1]
      simp [hc]
theorem trim_len (t : List UInt8) : (trim t).length ≤ t.length := by
  unfold trim
  split
  · rw [List.length_dropLast]; omega
  · exact Nat.le_refl _
theorem sp_trim {L : List (List UInt8)} (hL : L ≠ []) (hno : ∀ x ∈ L, (10 : UInt8) ∉ x) : sp 10 (trim (endl L)) = L := by
  obtain ⟨h1, h2⟩ := endl_last hL
  unfold trim
  rw [if_pos h1, h2]
  match L, hL with
  | x :: r, _ => exact sp_join hno
/-- A picture's rows, a byte a cell. -/
def rowB (ch : Nat → Nat → UInt8) (y : Nat) : Nat → List UInt8
  | 0 => []
  | x + 1 => rowB ch y x ++ [ch x y]
def linB (ch : Nat → Nat → UInt8) (W : Nat) : Nat → List (List UInt8)
  | 0 => []
  | y + 1 => linB ch W y ++ [rowB ch y W]
theorem rowB_len (ch : Nat → Nat → UInt8) (y : Nat) : ∀ x, (rowB ch y x).length = x
  | 0 => rfl
  | x + 1 => by show (rowB ch y x ++ [ch x y]).length = x + 1; rw [List.length_append, rowB_len ch y x]; rfl
theorem linB_len (ch : Nat → Nat → UInt8) (W : Nat) : ∀ y, (linB ch W y).length = y
  | 0 => rfl
  | y + 1 => by show (linB ch W y ++ [rowB ch y W]).length = y + 1; rw [List.length_append, linB_len ch W y]; rfl
theorem rowB_mem {ch : Nat → Nat → UInt8} {b : UInt8} (h : ∀ x y, ch x y ≠ b) (y : Nat) : ∀ x, b ∉ rowB ch y x
  | 0 => by intro g; cases g
  | x + 1 => by
    show b ∉ rowB ch y x ++ [ch x y]
    intro g
    rcases List.mem_append.1 g with g | g
    · exact rowB_mem h y x g
    · exact h x y (List.mem_singleton.1 g).symm
theorem linB_mem {ch : Nat → Nat → UInt8} {b : UInt8} (h : ∀ x y, ch x y ≠ b) (W : Nat) : ∀ y, ∀ l ∈ linB ch W y, b ∉ l
  | 0 => by intro l g; cases g
  | y + 1 => by
    intro l g
    rcases List.mem_append.1 g with g | g
    · exact linB_mem h W y l g
    · rw [List.mem_singleton.1 g]; exact rowB_mem h y W
theorem linB_endl (ch : Nat → Nat → UInt8) (W y : Nat) : endl (linB ch W (y + 1)) = endl (linB ch W y) ++ (rowB ch y W ++ [10]) := by
  unfold endl
  show ((linB ch W y ++ [rowB ch y W]).map _).flatten = _
  rw [List.map_append, List.flatten_append]; simp
theorem lin_split {ch : Nat → Nat → UInt8} (h : ∀ x y, ch x y ≠ 10) {W H : Nat} (hH : 0 < H) : sp 10 (trim (endl (linB ch W H))) = linB ch W H :=
  sp_trim (fun e => by have := linB_len ch W H; rw [e] at this; simp at this; omega) (linB_mem h W H)
end Go.Proofs.YtejnejplofddnaaGreatDoor
