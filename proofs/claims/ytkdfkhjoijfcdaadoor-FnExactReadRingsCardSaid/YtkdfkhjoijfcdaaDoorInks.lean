/- The inks that a picture shows, in a new slice, in both. -/
import Derived.Test.YtkdfkhjoijfcdaaDoorPicS
import Derived.Test.YtkdfkhjoijfcdaaDoorPicI
import Derived.Test.YtkdfkhjoijfcdaaDoorSlI
namespace Go.Proofs.YtkdfkhjoijfcdaaDoor
open Go.RowKit
set_option linter.unusedVariables false
set_option linter.unusedSimpArgs false
set_option maxRecDepth 100000
/-- Of the first n numbers those at which f is above 0, as values, and how many these are. -/
def inkL (f : Nat → Int) : Nat → List Value
  | 0 => []
  | n + 1 => inkL f n ++ (if 0 < f n then [.int .i64 (n : Int)] else [])
def inkN (f : Nat → Int) : Nat → Nat
  | 0 => 0
  | n + 1 => inkN f n + (if 0 < f n then 1 else 0)
theorem inkN_le (f : Nat → Int) (n : Nat) : inkN f n ≤ n := by
  induction n with
  | zero => exact Nat.le_refl _
  | succ n ih => show inkN f n + (if 0 < f n then 1 else 0) ≤ n + 1; split <;> omega
theorem ink_yes {f : Nat → Int} {n : Nat} (h : 0 < f n) : inkL f (n + 1) = inkL f n ++ [.int .i64 (n : Int)] ∧ inkN f (n + 1) = inkN f n + 1 := by
  constructor
  · show inkL f n ++ (if 0 < f n then _ else _) = _; rw [if_pos h]
  · show inkN f n + (if 0 < f n then 1 else 0) = _; rw [if_pos h]
theorem ink_no {f : Nat → Int} {n : Nat} (h : ¬ 0 < f n) : inkL f (n + 1) = inkL f n ∧ inkN f (n + 1) = inkN f n := by
  constructor
  · show inkL f n ++ (if 0 < f n then _ else _) = _; rw [if_neg h, List.append_nil]
  · show inkN f n + (if 0 < f n then 1 else 0) = _; rw [if_neg h]; rfl
theorem owns_empty1 (w : World) (e : TypeId) : (w.alloc (.cells #[] e)).ownsRow w.heap.size e 1 (.slice (some ⟨w.heap.size, 0, none⟩) 0 0) 0 [] :=
  ⟨rfl, .inr ⟨w.heap.size, 0, #[], rfl, Nat.le_refl _, by unfold World.alloc; exact Array.getElem?_push_size, Nat.le_refl _, by unfold maxLen; omega, rfl, rfl⟩⟩
theorem i64_info : ∃ i z, Tryd.prog.info? 2 = some i ∧ i.zero = some z ∧ i.size = 1 ∧ i.bytes = 8 ∧ z.cells.size = 1 := by
  have h : (match Tryd.prog.info? 2 with | some i => (match i.zero with | some z => i.size == 1 && i.bytes == 8 && z.cells.size == 1 | none => false) | none => false) = true := by kernel_rfl
  split at h
  · rename_i i hi
    split at h
    · rename_i z hz
      simp only [Bool.and_eq_true, beq_iff_eq] at h
      exact ⟨i, z, hi, hz, h.1.1, h.1.2, h.2⟩
    · cases h
  · cases h
/-- A value that owns n elements has the length n, whichever of the two it is. -/
theorem owns_len {w : World} {base : Nat} {e : TypeId} {s : Nat} {v : Value} {n : Nat} {xs : List Value} (h : w.ownsRow base e s v n xs) : ∃ a cap, v = .slice a n cap := by
  rcases h.2 with ⟨rfl, rfl⟩ | ⟨g, cap, cur, rfl, _⟩
  · exact ⟨_, _, rfl⟩
  · exact ⟨_, _, rfl⟩
theorem owns_below {w w' : World} {base : Nat} {e : TypeId} {s : Nat} {v : Value} {n : Nat} {xs : List Value} (h : w.ownsRow base e s v n xs) (hb : Below w.heap.size w w') : w'.ownsRow base e s v n xs := by
  refine ⟨h.1, ?_⟩
  rcases h.2 with hn | ⟨g, cap, cur, rfl, hg, hgg, rest⟩
  · exact .inl hn
  · exact .inr ⟨g, cap, cur, rfl, hg, (hb.block g (Array.getElem?_eq_some_iff.1 hgg).1).trans hgg, rest⟩
def InkR (f : Nat → Int) (w : World) (i v : Value) (wr : World) : Prop := ∃ k : Nat, k ≤ 3 ∧ i = .int .i64 k ∧ Below w.heap.size w wr ∧ wr.ownsRow w.heap.size 2 1 v (inkN f k) (inkL f k)
noncomputable def inkFn (c : Nat → Int) : Nat → Int := fun j => cnt c (c 0).toNat ((j : Int) + 1) ((c 1).toNat * (c 0).toNat)
noncomputable def inkC (c : Nat → Int) : Nat := if okP c = true then inkN (inkFn c) 3 else 0
noncomputable def inkE (c : Nat → Int) (j : Nat) : Int := intOf (((inkL (inkFn c) 3)[j]?).getD (.int .i64 0))
theorem inkL_len (f : Nat → Int) (n : Nat) : (inkL f n).length = inkN f n := by
  induction n with
  | zero => rfl
  | succ n ih =>
    show (inkL f n ++ (if 0 < f n then _ else _)).length = inkN f n + (if 0 < f n then 1 else 0)
    rw [List.length_append, ih]; split <;> rfl
theorem inkL_get (f : Nat → Int) (n : Nat) : ∀ u ∈ inkL f n, ∃ a, u = .int .i64 a := by
  induction n with
  | zero => intro u h; cases h
  | succ n ih =>
    intro u h
    rcases List.mem_append.1 h with h | h
    · exact ih u h
    · split at h
      · exact ⟨_, List.mem_singleton.1 h⟩
      · cases h
theorem inkE_at (c : Nat → Int) (j : Nat) (h : j < inkN (inkFn c) 3 * 1) : (inkL (inkFn c) 3)[j]? = some (.int .i64 (inkE c j)) := by
  have hj : j < (inkL (inkFn c) 3).length := by rw [inkL_len]; omega
  obtain ⟨a, ha⟩ := inkL_get (inkFn c) 3 _ (List.getElem_mem hj)
  unfold inkE
  rw [List.getElem?_eq_getElem hj, ha]; rfl
theorem inkC_yes {c : Nat → Int} (ho : okP c = true) : inkC c = inkN (inkFn c) 3 := if_pos ho
theorem inkC_no {c : Nat → Int} (ho : okP c = false) : inkC c = 0 := if_neg (by simp [ho])
theorem inkFn_is {c : Nat → Int} {W H : Nat} (hW : c 0 = W) (hH : c 1 = H) : inkFn c = fun j : Nat => cnt c W ((j : Int) + 1) (H * W) := by
  unfold inkFn; rw [hW, hH, Int.toNat_natCast, Int.toNat_natCast]
end Go.Proofs.YtkdfkhjoijfcdaaDoor
