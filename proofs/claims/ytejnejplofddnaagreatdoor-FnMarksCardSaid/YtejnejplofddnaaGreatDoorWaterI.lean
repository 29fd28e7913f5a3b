/- The water of a sheet: the program's way, over its cells. -/
import Derived.Test.YtejnejplofddnaaGreatDoorWater
namespace Go.Proofs.YtejnejplofddnaaGreatDoor
open Go.RowKit
set_option linter.unusedVariables false
set_option linter.unusedSimpArgs false
set_option maxRecDepth 100000
theorem spots_len (W n : Nat) : (spots W n).length = n * 2 := by
  induction n with
  | zero => rfl
  | succ n ih =>
    have e : spots W (n + 1) = spots W n ++ [.int .i8 ((n % W : Nat) : Int), .int .i8 ((n / W : Nat) : Int)] := by
      unfold spots; rw [List.range_succ, List.flatMap_append]; simp only [List.flatMap_cons, List.flatMap_nil, List.append_nil]
    rw [e, List.length_append, ih, Nat.succ_mul]; rfl
theorem spots_drop (W : Nat) (n i : Nat) (h : i < n) : (spots W n)[i * 2]? = some (.int .i8 ((i % W : Nat) : Int)) ∧ (spots W n)[i * 2 + 1]? = some (.int .i8 ((i / W : Nat) : Int)) := by
  induction n with
  | zero => omega
  | succ n ih =>
    have hl := spots_len W n
    have e : spots W (n + 1) = spots W n ++ [.int .i8 ((n % W : Nat) : Int), .int .i8 ((n / W : Nat) : Int)] := by
      unfold spots; rw [List.range_succ, List.flatMap_append]; simp only [List.flatMap_cons, List.flatMap_nil, List.append_nil]
    rw [e]
    by_cases hi : i < n
    · rw [List.getElem?_append_left (by omega), List.getElem?_append_left (by omega)]
      exact ih hi
    · have : i = n := by omega
      subst this
      rw [List.getElem?_append_right (by omega), List.getElem?_append_right (by omega), hl]
      refine ⟨by rw [Nat.sub_self]; rfl, by rw [show i * 2 + 1 - i * 2 = 1 by omega]; rfl⟩
/-- A row that is owned and not empty, by its cells. -/
theorem owns_some {w : World} {base : Nat} {e : TypeId} {v : Value} {n : Nat} {xs : List Value} (h : w.ownsRow base e 2 v n xs) (hn : 0 < n) :
    ∃ g cap, v = .slice (some ⟨g, 0, none⟩) n cap ∧ base ≤ g ∧ g < w.heap.size ∧ ∀ (j : Nat) (u : Value), xs[j]? = some u → (rowOf w g)[j]? = some u := by
  obtain ⟨hl, ⟨_, h0⟩ | ⟨g, cap, cur, rfl, hb, hg, _, _, _, ht⟩⟩ := h
  · omega
  · refine ⟨g, cap, rfl, hb, (Array.getElem?_eq_some_iff.1 hg).1, fun j u hj => ?_⟩
    have hrow : rowOf w g = cur := by simp [rowOf, hg, objRow]
    rw [hrow, ← Array.getElem?_toList]
    rw [← ht, List.getElem?_take] at hj
    split at hj
    · exact hj
    · cases hj
def SumW (c : Nat → Int) (W n : Nat) (w0 w1 : World) (i s : Value) (wr : World) : Prop := ∃ k : Nat, k ≤ n ∧ i = .int .i64 k ∧ s = .int .i64 (sumTo (fun k => wetF c (place W k)) k) ∧ Below w0.heap.size w0 wr ∧ Below w1.heap.size w1 wr
theorem wetp_bound {c : Nat → Int} (hf : FitSheet c) (W : Nat) (h0 : 0 < W) (hW : W ≤ 8) (n : Nat) (hn : n ≤ 8 * W) : -2097152 ≤ sumTo (fun k => wetF c (place W k)) n ∧ sumTo (fun k => wetF c (place W k)) n ≤ 2097152 := by
  have h64 : n ≤ 64 := by have := Nat.mul_le_mul_left 8 hW; omega
  have := sumTo_in (fun k => wetF c (place W k)) (-32768) 32767 n (fun k hk => by
    have h1 : k / W < 8 := (Nat.div_lt_iff_lt_mul h0).2 (by omega)
    have h2 : k % W < W := Nat.mod_lt _ h0
    exact hf.cell (2 + place W k) (by omega) (by unfold place; omega))
  omega
open Classical in
noncomputable def waterR (c : Nat → Int) : Int := if okS c = true then sumTo (wetF c) 64 else 0
theorem okS_sides {c : Nat → Int} (h : okS c = true) : ∃ W H : Nat, c 0 = W ∧ c 1 = H ∧ 0 < W ∧ 0 < H ∧ W ≤ 8 ∧ H ≤ 8 := by
  have ⟨h0, h1, _⟩ : OkS c := by simpa [okS] using h
  exact ⟨(c 0).toNat, (c 1).toNat, by omega, by omega, by omega, by omega, by omega, by omega⟩
end Go.Proofs.YtejnejplofddnaaGreatDoor
