/- The pairs of partners of a fold: what is known of a round. -/
import Derived.Test.YtbnhhjjhjjmmjaaPressP
import Derived.Test.YtbnhhjjhjjmmjaaUnlikeS
import Derived.Test.YtbnhhjjhjjmmjaaBlotS
import Derived.Test.YtbnhhjjhjjmmjaaOrd
namespace Go.Proofs.Ytbnhhjjhjjmmjaa
open Go.RowKit
set_option linter.unusedVariables false
set_option linter.unusedSimpArgs false
set_option maxRecDepth 100000
theorem first_ord (a : Int) (d : Bool) (W k : Nat) : firstB a d ((k % W : Nat) : Int) ((k / W : Nat) : Int) = true ↔ ordI ((k % W : Nat) : Int) ((k / W : Nat) : Int) (ptX a d W k) (ptY a d W k) < 0 := by
  rw [ordI_neg]
  unfold firstB ptX ptY
  cases d <;> simp <;> omega
theorem pairU_1 {c : Nat → Int} {a : Int} {d : Bool} {W k : Nat} (h : firstB a d ((k % W : Nat) : Int) ((k / W : Nat) : Int) = false) : pairU c a d W k = false := by unfold pairU; rw [h]; rfl
theorem pairU_2 {c : Nat → Int} {a : Int} {d : Bool} {W k : Nat} (h : isP c (ptX a d W k) (ptY a d W k) = false) : pairU c a d W k = false := by unfold pairU; rw [h]; simp
theorem pairU_3 {c : Nat → Int} {a : Int} {d : Bool} {W k : Nat} (h : waxS c (k % W) (k / W) = true) : pairU c a d W k = false := by unfold pairU; rw [h]; simp
theorem pairU_4 {c : Nat → Int} {a : Int} {d : Bool} {W k : Nat} (h : waxS c (ptX a d W k).toNat (ptY a d W k).toNat = true) : pairU c a d W k = false := by unfold pairU; rw [h]; simp
theorem pairU_5 {c : Nat → Int} {a : Int} {d : Bool} {W k : Nat} (h1 : firstB a d ((k % W : Nat) : Int) ((k / W : Nat) : Int) = true) (h2 : isP c (ptX a d W k) (ptY a d W k) = true) (h3 : waxS c (k % W) (k / W) = false) (h4 : waxS c (ptX a d W k).toNat (ptY a d W k).toNat = false) : pairU c a d W k = true := by unfold pairU; rw [h1, h2, h3, h4]; rfl
/-- What is known at the head of a round: the pairs so far lie in a block of their own; the fold's box and the slice of all cells are as they were. -/
def PrR (U : Nat → Bool) (a : Int) (d : Bool) (q : Int) (W n : Nat) (e : TypeId) (w ws : World) (g : Nat) (i v : Value) (wr : World) : Prop := ∃ (k b cap : Nat), k ≤ n ∧ i = .int .i64 k ∧ v = .slice (some ⟨b, 0, none⟩) (selN U k) cap ∧ Below w.heap.size w wr ∧ ws.heap.size ≤ wr.heap.size ∧ wr.ownsRow w.heap.size e 4 (.slice (some ⟨b, 0, none⟩) (selN U k) cap) (selN U k) (prL U a d W k) ∧ b ≠ g ∧ b ≠ w.heap.size ∧ rowOf wr g = rowOf ws g ∧ rowOf wr w.heap.size = #[.int .i8 a, .bool d, .int .i8 q]
theorem owns_belowN {w w' : World} {base : Nat} {e : TypeId} {s : Nat} {v : Value} {n : Nat} {xs : List Value} (h : w.ownsRow base e s v n xs) (hb : Below w.heap.size w w') : w'.ownsRow base e s v n xs := by
  obtain ⟨hl, h | ⟨g, cap, cur, h0, h1, hg, h2, h3, h4, ht⟩⟩ := h
  · exact ⟨hl, .inl h⟩
  · exact ⟨hl, .inr ⟨g, cap, cur, h0, h1, by rw [hb.block g ((Array.getElem?_eq_some_iff.1 hg).1)]; exact hg, h2, h3, h4, ht⟩⟩
set_option maxHeartbeats 1000000 in
theorem l03Partner_any (a : Int) (d : Bool) (q x y : Int) (ha : 1 ≤ a ∧ a ≤ 8) (hx : 0 ≤ x ∧ x ≤ 8) (hy : 0 ≤ y ∧ y ≤ 8) (w : World) : Calls Try.prog 119 #[.agg #[.int .i8 a, .bool d, .int .i8 q], .agg #[.int .i8 x, .int .i8 y]] w fun e w' => e = .returned (.agg #[.int .i8 (if d then x else 2 * a - 1 - x), .int .i8 (if d then 2 * a - 1 - y else y)]) ∧ Below w.heap.size w w' := by
  cases d
  all_goals
    go_enter Try.func119, Try.ntmps119
    go_wp2
  · refine bodyPost_ret (v := .agg #[.int .i8 (2 * a - 1 - x), .int .i8 y]) (res_c rfl rfl (by (go_simp <;> (intros; omega)))) rfl ⟨rfl, by repeat' (first | with_reducible exact Below.refl _ _ | with_reducible assumption | with_reducible refine Below.drew ?_ | with_reducible refine Below.drewN ?_ _ | with_reducible refine Below.alloc ?_ ?_ _ | with_reducible refine Below.setCell ?_ ?_ _ | with_reducible refine Below.setRow ?_ ?_ _ | with_reducible refine below_step (by assumption) ?_ ?_ | (show (_ : Nat) ≤ _; first | omega | (simp <;> omega)))⟩
  · refine bodyPost_ret (v := .agg #[.int .i8 x, .int .i8 (2 * a - 1 - y)]) (res_c rfl rfl (by (go_simp <;> (intros; omega)))) rfl ⟨rfl, by repeat' (first | with_reducible exact Below.refl _ _ | with_reducible assumption | with_reducible refine Below.drew ?_ | with_reducible refine Below.drewN ?_ _ | with_reducible refine Below.alloc ?_ ?_ _ | with_reducible refine Below.setCell ?_ ?_ _ | with_reducible refine Below.setRow ?_ ?_ _ | with_reducible refine below_step (by assumption) ?_ ?_ | (show (_ : Nat) ≤ _; first | omega | (simp <;> omega)))⟩
set_option maxHeartbeats 1000000 in
theorem partner_any (a : Int) (d : Bool) (q x y : Int) (ha : 1 ≤ a ∧ a ≤ 8) (hx : 0 ≤ x ∧ x ≤ 8) (hy : 0 ≤ y ∧ y ≤ 8) (w : World) : Calls Try.prog 125 #[.agg #[.int .i8 a, .bool d, .int .i8 q], .agg #[.int .i8 x, .int .i8 y]] w fun e w' => e = .returned (.agg #[.int .i8 (if d then x else 2 * a - 1 - x), .int .i8 (if d then 2 * a - 1 - y else y)]) ∧ Below w.heap.size w w' := by
  cases d
  all_goals
    go_enter Try.func125, Try.ntmps125
    go_wp2
  · refine bodyPost_ret (v := .agg #[.int .i8 (2 * a - 1 - x), .int .i8 y]) (res_c rfl rfl (by (go_simp <;> (intros; omega)))) rfl ⟨rfl, by repeat' (first | with_reducible exact Below.refl _ _ | with_reducible assumption | with_reducible refine Below.drew ?_ | with_reducible refine Below.drewN ?_ _ | with_reducible refine Below.alloc ?_ ?_ _ | with_reducible refine Below.setCell ?_ ?_ _ | with_reducible refine Below.setRow ?_ ?_ _ | with_reducible refine below_step (by assumption) ?_ ?_ | (show (_ : Nat) ≤ _; first | omega | (simp <;> omega)))⟩
  · refine bodyPost_ret (v := .agg #[.int .i8 x, .int .i8 (2 * a - 1 - y)]) (res_c rfl rfl (by (go_simp <;> (intros; omega)))) rfl ⟨rfl, by repeat' (first | with_reducible exact Below.refl _ _ | with_reducible assumption | with_reducible refine Below.drew ?_ | with_reducible refine Below.drewN ?_ _ | with_reducible refine Below.alloc ?_ ?_ _ | with_reducible refine Below.setCell ?_ ?_ _ | with_reducible refine Below.setRow ?_ ?_ _ | with_reducible refine below_step (by assumption) ?_ ?_ | (show (_ : Nat) ≤ _; first | omega | (simp <;> omega)))⟩
theorem pair_info : ∃ i z, Try.prog.info? 131 = some i ∧ i.zero = some z ∧ i.size = 4 ∧ i.bytes = 4 ∧ z.cells.size = 4 := by
  have h : (match Try.prog.info? 131 with | some i => (match i.zero with | some z => i.size == 4 && i.bytes == 4 && z.cells.size == 4 | none => false) | none => false) = true := by kernel_rfl
  split at h
  · rename_i i hi
    split at h
    · rename_i z hz
      simp only [Bool.and_eq_true, beq_iff_eq] at h
      exact ⟨i, z, hi, hz, h.1.1, h.1.2, h.2⟩
    · cases h
  · cases h
end Go.Proofs.Ytbnhhjjhjjmmjaa
