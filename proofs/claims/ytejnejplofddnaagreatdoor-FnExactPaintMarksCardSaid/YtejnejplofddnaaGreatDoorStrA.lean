/- Slices of strings that are handed in. -/
import Derived.Test.YtejnejplofddnaaGreatDoorGqC
import Derived.Test.YtejnejplofddnaaGreatDoorGqA
import Derived.Test.YtejnejplofddnaaGreatDoorOrdP
import Derived.Deep.Strs
namespace Go.Proofs.YtejnejplofddnaaGreatDoor
open Go.RowKit Go.ChangeShapes Go.WideShapes Go.ChangeAt Go.Deep
set_option linter.unusedVariables false
set_option linter.unusedSimpArgs false
set_option maxRecDepth 100000
def stV (L : List (List UInt8)) : Nat → Nat → Value := fun k _ => .string (tx (L.getD k []))
abbrev OwnT (w : World) (b : Nat) (v : Value) (L : List (List UInt8)) : Prop := OwnV 1 w b v L.length (stV L)
abbrev SlT (w : World) (v : Value) (L : List (List UInt8)) : Prop := SlV 1 w v L.length (stV L)
theorem stV_at {L : List (List UInt8)} {k : Nat} {x : List UInt8} (h : L[k]? = some x) (j : Nat) : stV L k j = .string (tx x) := by unfold stV; rw [List.getD_eq_getElem?_getD, h]; rfl
theorem OwnT.of {w : World} {b : Nat} {e : TypeId} {v : Value} {L : List (List UInt8)} (h : w.ownsRow b e 1 v L.length (strV L)) : OwnT w b v L :=
  OwnV.of h (fun k hk j hj => by
    have : j = 0 := by omega
    subst this
    rw [stV_at (List.getElem?_eq_getElem hk)]
    unfold strV
    rw [Nat.mul_one, Nat.add_zero, List.getElem?_map, List.getElem?_eq_getElem hk]; rfl)
theorem OwnT.at {w : World} {b : Nat} {v : Value} {L : List (List UInt8)} (h : OwnT w b v L) (h0 : 0 < L.length) : ∃ g cap, v = .slice (some ⟨g, 0, none⟩) L.length cap ∧ g < w.heap.size ∧ L.length ≤ (rowOf w g).size ∧ ∀ (k : Nat) (x : List UInt8), L[k]? = some x → (rowOf w g)[k]? = some (Value.string (tx x)) := by
  obtain ⟨g, cap, hv, -, hg, -, hs, hc⟩ := h.pos h0
  refine ⟨g, cap, hv, hg, by omega, fun k x hx => ?_⟩
  have := hc k (List.getElem?_eq_some_iff.1 hx).1 0 (by omega)
  rw [stV_at hx, Nat.mul_one, Nat.add_zero] at this
  exact this
theorem SlT.at {w : World} {v : Value} {L : List (List UInt8)} (h : SlT w v L) (h0 : 0 < L.length) : ∃ g o cap, v = .slice (some ⟨g, o, none⟩) L.length cap ∧ g < w.heap.size ∧ o + L.length ≤ (rowOf w g).size ∧ ∀ (k : Nat) (x : List UInt8), L[k]? = some x → (rowOf w g)[o + k]? = some (Value.string (tx x)) := by
  obtain ⟨g, o, cap, hv, hg, hs, hc⟩ := h.pos h0
  refine ⟨g, o, cap, hv, hg, by omega, fun k x hx => ?_⟩
  have := hc k (List.getElem?_eq_some_iff.1 hx).1 0 (by omega)
  rw [stV_at hx, Nat.mul_one, Nat.add_zero] at this
  exact this
theorem open_slT {H : Type} {enc : TypeId × Value → H} {P : Program} {w : World} {base b0 : Nat} {spare : Nat → Bool} {held : Bool} {r : Reach} {t e : TypeId} {v : Value} {d : DataW H} {p : List MemPlace}
    (ht : P.underlying t = some (.slice e)) (he : P.underlying e = some .string) (hc : P.cellsOf e = 1) (hv : Value.okWide P w r b0 t v) (h : DataW.Trod enc P w base spare held t v d p) :
    ∃ (L : List (List UInt8)), SlT w v L ∧ L.length ≤ 9223372036854775807 ∧ ∀ x ∈ L, x.length ≤ 9223372036854775807 := by
  obtain ⟨a0, len0, cap0, rfl⟩ := okWide_slice ht hv
  obtain ⟨fuel, hx⟩ := h
  rcases open_strs ht he hc hx with ⟨h0, -⟩ | ⟨a, len, cap, m, Sx, h0, hb, hl, hm, hmm, -, hel⟩
  · simp only [Value.cells] at h0
    simp at h0
    obtain ⟨rfl, rfl, rfl⟩ := h0
    exact ⟨[], .inl ⟨rfl, rfl⟩, by simp, by simp⟩
  · simp only [Value.cells] at h0
    simp at h0
    obtain ⟨rfl, rfl, rfl⟩ := h0
    have hlm : len0 ≤ m := by rw [hmm]; split <;> omega
    have hl2 : ((List.range len0).map fun i => (Sx i).data.toList).length = len0 := by simp
    refine ⟨(List.range len0).map fun i => (Sx i).data.toList, .inr ⟨a, cap0, by rw [hl2], fun h0 => ?_⟩, by rw [hl2]; unfold maxLen at hm; omega, fun x hx => ?_⟩
    · have h0 : 0 < len0 := by rw [hl2] at h0; exact h0
      rw [hl2]
      have hc0 := (hel 0 (by omega)).1
      have hspot : a.spot = none := by
        have : a.add 0 = a := by unfold Addr.add; simp
        rw [this] at hc0
        unfold World.cell? at hc0
        split at hc0
        · split at hc0
          · cases hc0
          · rename_i hsp; simpa using hsp
        · cases hc0
      obtain ⟨g, o, sp⟩ := a
      simp only at hspot
      subst hspot
      have hadd : ∀ i, (⟨g, o, none⟩ : Addr).add i = ⟨g, o + i, none⟩ := fun i => by unfold Addr.add; split <;> simp_all
      have hcell : ∀ i, i < len0 → (rowOf w g)[o + i]? = some (.string (Sx i)) := fun i hi => by
        have := (hel i (by omega)).1
        rw [hadd, cell_row] at this
        exact this
      have hg : g < w.heap.size := by
        have h1 := hcell 0 (by omega)
        apply Decidable.byContradiction
        intro hn
        unfold rowOf at h1
        rw [Array.getElem?_eq_none (Nat.le_of_not_lt hn)] at h1
        simp [objRow] at h1
      refine ⟨g, o, rfl, hg, ?_, fun k hk j hj => ?_⟩
      · have h1 := hcell (len0 - 1) (by omega)
        have := (Array.getElem?_eq_some_iff.1 h1).1
        rw [Nat.mul_one]
        omega
      · have hj0 : j = 0 := by omega
        subst hj0
        have hk2 : ((List.range len0).map fun i => (Sx i).data.toList)[k]? = some (Sx k).data.toList := by rw [List.getElem?_map, List.getElem?_range hk]; rfl
        rw [stV_at hk2, Nat.mul_one, Nat.add_zero, hcell k hk]
        rfl
    · obtain ⟨i, hi, rfl⟩ := List.mem_map.1 hx
      have := (hel i (by have := List.mem_range.1 hi; omega)).2
      unfold maxLen at this
      rw [Array.length_toList]
      exact Nat.le_trans this (by decide)
end Go.Proofs.YtejnejplofddnaaGreatDoor
