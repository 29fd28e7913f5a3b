/- A list has each index once: by search, and by sorting. No program. -/
import Derived.Test.YtejnejplofddnaaGreatDoorCov
namespace Go.Proofs.YtejnejplofddnaaGreatDoor
open Go.RowKit
set_option linter.unusedVariables false
set_option linter.unusedSimpArgs false
set_option maxRecDepth 100000
def InRg (f : Nat → Int) (m n : Nat) : Prop := ∀ i, i < m → 0 ≤ f i ∧ f i < n
def DisT (f : Nat → Int) (m : Nat) : Prop := ∀ j, j < m → ∀ i, i < j → f i ≠ f j
/-- A list has each index once. -/
def PrmP (f : Nat → Int) (m n : Nat) : Prop := m = n ∧ InRg f m n ∧ DisT f m
open Classical in
noncomputable def prmB (f : Nat → Int) (m n : Nat) : Bool := decide (PrmP f m n)
def fL (f : Nat → Int) (m : Nat) : List Int := (List.range m).map f
theorem fL_len (f : Nat → Int) (m : Nat) : (fL f m).length = m := by unfold fL; simp
theorem fL_at {f : Nat → Int} {m i : Nat} (h : i < m) : (fL f m)[i]'(by rw [fL_len]; exact h) = f i := by unfold fL; simp
theorem fL_nodup {f : Nat → Int} {m : Nat} : (fL f m).Nodup ↔ DisT f m := by
  unfold List.Nodup
  rw [List.pairwise_iff_getElem]
  constructor
  · intro h j hj i hi e
    refine h i j (by rw [fL_len]; omega) (by rw [fL_len]; omega) hi ?_
    rw [fL_at (by omega), fL_at hj]; exact e
  · intro h i j hi hj hij
    rw [fL_len] at hi hj
    rw [fL_at hi, fL_at hj]
    exact h j hj i hij
theorem sorted_id {f : Nat → Int} {m n : Nat} {L : List Int} (hp : L.Perm (fL f m)) (hs : L.Pairwise (· ≤ ·)) : ((∀ i (h : i < L.length), L[i] = (i : Int)) ∧ m = n) ↔ PrmP f m n := by
  have hlen : L.length = m := by rw [hp.length_eq, fL_len]
  constructor
  · rintro ⟨h, rfl⟩
    have hnd : L.Nodup := by
      unfold List.Nodup
      rw [List.pairwise_iff_getElem]
      intro i j hi hj hij
      rw [h i hi, h j hj]
      omega
    refine ⟨rfl, fun i hi => ?_, fL_nodup.1 (hp.nodup_iff.1 hnd)⟩
    have hm : f i ∈ L := hp.mem_iff.2 (by unfold fL; exact List.mem_map.2 ⟨i, List.mem_range.2 hi, rfl⟩)
    obtain ⟨k, hk, e⟩ := List.getElem_of_mem hm
    rw [h k hk] at e
    omega
  · rintro ⟨rfl, hr, hd⟩
    refine ⟨?_, rfl⟩
    have hnd : L.Nodup := hp.nodup_iff.2 (fL_nodup.2 hd)
    have hlt : ∀ i j (hi : i < L.length) (hj : j < L.length), i < j → L[i] < L[j] := fun i j hi hj hij => by
      have h1 := (List.pairwise_iff_getElem.1 hs) i j hi hj hij
      have h2 := (List.pairwise_iff_getElem.1 hnd) i j hi hj hij
      omega
    have hin : ∀ i (hi : i < L.length), 0 ≤ L[i] ∧ L[i] < m := fun i hi => by
      have hm := hp.mem_iff.1 (List.getElem_mem hi)
      unfold fL at hm
      obtain ⟨k, hk, e⟩ := List.mem_map.1 hm
      have := hr k (List.mem_range.1 hk)
      omega
    have hge : ∀ i (hi : i < L.length), (i : Int) ≤ L[i] := by
      intro i
      induction i with
      | zero => intro hi; exact (hin 0 hi).1
      | succ i ih =>
        intro hi
        have h1 := ih (by omega)
        have h2 := hlt i (i + 1) (by omega) hi (by omega)
        omega
    have hle : ∀ d i (hi : i + d < L.length), L[i]'(by omega) + d ≤ L[i + d] := by
      intro d
      induction d with
      | zero => intro i hi; simp
      | succ d ih =>
        intro i hi
        have h1 := ih i (by omega)
        have h2 := hlt (i + d) (i + (d + 1)) (by omega) hi (by omega)
        omega
    intro i hi
    have h1 := hge i hi
    have h2 := hle (L.length - 1 - i) i (by omega)
    have h3 := (hin (i + (L.length - 1 - i)) (by omega)).2
    omega
/-- The order as indices. -/
def orL (f : Nat → Int) (m : Nat) : List Nat := (List.range m).map fun i => (f i).toNat
theorem orL_len (f : Nat → Int) (m : Nat) : (orL f m).length = m := by unfold orL; simp
theorem orL_at {f : Nat → Int} {m n i : Nat} (h : i < m) (hr : InRg f m n) : ((((orL f m).getD i 0 : Nat)) : Int) = f i := by
  unfold orL
  rw [List.getD_eq_getElem?_getD, List.getElem?_map, List.getElem?_range h]
  have := (hr i h).1
  simp; omega
theorem orL_in {f : Nat → Int} {m n : Nat} (hr : InRg f m n) : ∀ i ∈ orL f m, i < n := fun i hi => by
  unfold orL at hi
  obtain ⟨k, hk, rfl⟩ := List.mem_map.1 hi
  have := hr k (List.mem_range.1 hk)
  omega
/-- A list in the midst of the search. -/
def PrmTo (f : Nat → Int) (n k : Nat) : Prop := InRg f k n ∧ DisT f k
theorem prmTo_next {f : Nat → Int} {n k : Nat} (h : PrmTo f n k) (h1 : 0 ≤ f k ∧ f k < n) (h2 : ∀ i, i < k → f i ≠ f k) : PrmTo f n (k + 1) := by
  refine ⟨fun i hi => ?_, fun j hj i hi => ?_⟩
  · rcases Nat.lt_succ_iff_lt_or_eq.1 hi with h3 | rfl
    · exact h.1 i h3
    · exact h1
  · rcases Nat.lt_succ_iff_lt_or_eq.1 hj with h3 | rfl
    · exact h.2 j h3 i hi
    · exact h2 i hi
open Classical in
theorem prm_no {f : Nat → Int} {m n : Nat} (h : ¬ PrmP f m n) : prmB f m n = false := decide_eq_false h
open Classical in
theorem prm_yes {f : Nat → Int} {m n : Nat} (h : PrmP f m n) : prmB f m n = true := decide_eq_true h
end Go.Proofs.YtejnejplofddnaaGreatDoor
