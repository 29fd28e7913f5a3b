/- All cells of a sheet, ordered, in a new slice. -/
import Derived.Test.YtejnejplofddnaaGreatDoorCell
import Derived.Laws.AppendOwn
namespace Go.Proofs.YtejnejplofddnaaGreatDoor
open Go.RowKit
set_option linter.unusedVariables false
set_option linter.unusedSimpArgs false
set_option maxRecDepth 100000
/-- The first n cells of a sheet so wide, as numbers one behind the other. -/
def spots (W n : Nat) : List Value := (List.range n).flatMap fun k => [.int .i8 ((k % W : Nat) : Int), .int .i8 ((k / W : Nat) : Int)]
theorem spots_zero (W : Nat) : spots W 0 = [] := rfl
theorem spots_next (W x y : Nat) (hx : x < W) : spots W (y * W + x + 1) = spots W (y * W + x) ++ [.int .i8 (x : Int), .int .i8 (y : Int)] := by
  unfold spots
  rw [List.range_succ, List.flatMap_append]
  have h1 : (y * W + x) % W = x := by rw [Nat.add_comm, Nat.add_mul_mod_self_right]; exact Nat.mod_eq_of_lt hx
  have h2 : (y * W + x) / W = y := by rw [Nat.add_comm, Nat.add_mul_div_right _ _ (by omega), Nat.div_eq_of_lt hx, Nat.zero_add]
  simp only [List.flatMap_cons, List.flatMap_nil, List.append_nil, h1, h2]
theorem below_grown {B : Nat} {a b c : World} {row : Option Nat} (h : Below B a b) (g : b.grownBy c row) (hr : ∀ k, row = some k → B ≤ k) (hB : B ≤ b.heap.size) : Below B a c :=
  ⟨g.os.trans h.os, g.tape.trans h.tape, g.output.trans h.output, Nat.le_trans h.size g.size, fun k hk => (g.block k (by omega) (fun e => by have := hr k e.symm; omega)).trans (h.block k hk)⟩
theorem owns_base {w : World} {base : Nat} {e : TypeId} {size : Nat} {v : Value} {n : Nat} {xs : List Value} (h : w.ownsRow base e size v n xs) : ∀ k, v.ownBlock = some k → base ≤ k := by
  intro k hk
  rcases h.2 with ⟨rfl, _⟩ | ⟨g, cap, cur, rfl, hb, _⟩
  · simp [Value.ownBlock] at hk
  · simp [Value.ownBlock] at hk; omega
theorem owns_empty (w : World) (e : TypeId) : (w.alloc (.cells #[] e)).ownsRow w.heap.size e 2 (.slice (some ⟨w.heap.size, 0, none⟩) 0 0) 0 [] :=
  ⟨rfl, .inr ⟨w.heap.size, 0, #[], rfl, Nat.le_refl _, by unfold World.alloc; exact Array.getElem?_push_size, Nat.le_refl _, by unfold maxLen; omega, rfl, rfl⟩⟩
theorem spot_info : ∃ i z, Tryz.prog.info? 59 = some i ∧ i.zero = some z ∧ i.size = 2 ∧ i.bytes = 2 ∧ z.cells.size = 2 := by
  have h : (match Tryz.prog.info? 59 with | some i => (match i.zero with | some z => i.size == 2 && i.bytes == 2 && z.cells.size == 2 | none => false) | none => false) = true := by kernel_rfl
  split at h
  · rename_i i hi
    split at h
    · rename_i z hz
      simp only [Bool.and_eq_true, beq_iff_eq] at h
      exact ⟨i, z, hi, hz, h.1.1, h.1.2, h.2⟩
    · cases h
  · cases h
end Go.Proofs.YtejnejplofddnaaGreatDoor
