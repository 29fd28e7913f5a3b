/- Several texts in one: PicS Eq Blank PicI Inks FTextI. -/
import Derived.Test.YtejnejplofddnaaGreatDoorGqA
import Derived.Laws.AppendOwn
import Derived.Test.YtejnejplofddnaaGreatDoorBase
import Derived.StillTailTactics
import Derived.Test.YtejnejplofddnaaGreatDoorShapes
import Derived.Lib.Hide
import Derived.Test.YtejnejplofddnaaGreatDoorGqC
import Derived.Test.YtejnejplofddnaaGreatDoorShelfB
import Derived.Test.YtejnejplofddnaaGreatDoorHeld
/- All cells of a picture, ordered, in a new slice, and how many show a number: the reference. -/
namespace Go.Proofs.YtejnejplofddnaaGreatDoor
open Go.RowKit
set_option linter.unusedVariables false
set_option linter.unusedSimpArgs false
set_option maxRecDepth 100000
/-- What is known at the head of a round over the cells that a slice holds: so far m was seen so often. -/
def CntR (c : Nat → Int) (W n : Nat) (m : Int) (w0 w1 : World) (i s : Value) (wr : World) : Prop := ∃ k : Nat, k ≤ n ∧ i = .int .i64 k ∧ s = .int .i64 (cnt c W m k) ∧ Below w0.heap.size w0 wr ∧ Below w1.heap.size w1 wr
end Go.Proofs.YtejnejplofddnaaGreatDoor
/- The statements' own comparing functions over arrays: of one value twice they say yes, and turn nothing that was there. -/
namespace Go.Proofs.YtejnejplofddnaaGreatDoor
open Go.RowKit
set_option linter.unusedVariables false
set_option linter.unusedSimpArgs false
set_option maxRecDepth 100000
end Go.Proofs.YtejnejplofddnaaGreatDoor
/- White pictures and plain sheets. -/
namespace Go.Proofs.YtejnejplofddnaaGreatDoor
open Go.RowKit
set_option linter.unusedVariables false
set_option linter.unusedSimpArgs false
set_option maxRecDepth 100000

def blank (a b : Int) : Nat → Int := fun j => if j = 0 then a else if j = 1 then b else 0
def blankV (ks : Nat → IntKind) (n : Nat) (a b : Int) : Value :=
  if inB a 1 8 = true ∧ inB b 1 8 = true then .tuple #[.agg (kc ks n (blank a b)), .int .i64 0] else .tuple #[.agg (kc ks n fun _ => 0), .int .i64 2]
theorem blankV_yes {ks : Nat → IntKind} {n : Nat} {a b : Int} (h : inB a 1 8 = true) (g : inB b 1 8 = true) : blankV ks n a b = .tuple #[.agg (kc ks n (blank a b)), .int .i64 0] := if_pos ⟨h, g⟩
theorem blankV_no1 {ks : Nat → IntKind} {n : Nat} {a b : Int} (h : inB a 1 8 = false) : blankV ks n a b = .tuple #[.agg (kc ks n fun _ => 0), .int .i64 2] := if_neg (fun g => by simp [h] at g)
theorem blankV_no2 {ks : Nat → IntKind} {n : Nat} {a b : Int} (h : inB b 1 8 = false) : blankV ks n a b = .tuple #[.agg (kc ks n fun _ => 0), .int .i64 2] := if_neg (fun g => by simp [h] at g)

end Go.Proofs.YtejnejplofddnaaGreatDoor
/- A picture's code, its sheet, what a cell shows, and how many cells show each ink: the program. -/
namespace Go.Proofs.YtejnejplofddnaaGreatDoor
open Go.RowKit
set_option linter.unusedVariables false
set_option linter.unusedSimpArgs false
set_option maxRecDepth 100000
theorem fit_blank {c : Nat → Int} (hf : FitPicture c) : FitSheet (blank (c 0) (c 1)) where
  side := fun j hj => by
    have h0 := hf.side 0 (by omega)
    have h1 := hf.side 1 (by omega)
    unfold blank; repeat' split
    all_goals omega
  cell := fun j hj hk => by unfold blank; rw [if_neg (by omega), if_neg (by omega)]; omega
  wax := fun j hj hk => by unfold blank; rw [if_neg (by omega), if_neg (by omega)]; omega
theorem four {v : Int} (h : 0 ≤ v) (g : v ≤ 3) : v = 0 ∨ v = 1 ∨ v = 2 ∨ v = 3 := by omega
/-- What is known at the head of a round of 'counts': its boxes and the slice of cells hold these rows. -/
def Cnt3 (c : Nat → Int) (W n : Nat) (w0 w1 : World) (g : Nat) (i : Value) (wr : World) : Prop := ∃ k : Nat, k ≤ n ∧ i = .int .i64 k ∧ Below w0.heap.size w0 wr ∧ w1.heap.size ≤ wr.heap.size ∧ rowOf wr g = rowOf w1 g ∧ rowOf wr w0.heap.size = #[.int .i64 0, .int .i64 0, .int .i64 0] ∧ frOf wr w0.heap.size = (0, 0) ∧ rowOf wr (w0.heap.size + 1) = #[.int .i64 (cnt c W 1 k), .int .i64 (cnt c W 2 k), .int .i64 (cnt c W 3 k)] ∧ frOf wr (w0.heap.size + 1) = (0, 0)
end Go.Proofs.YtejnejplofddnaaGreatDoor
/- The inks that a picture shows, in a new slice, in both. -/
namespace Go.Proofs.YtejnejplofddnaaGreatDoor
open Go.RowKit
set_option linter.unusedVariables false
set_option linter.unusedSimpArgs false
set_option maxRecDepth 100000
/-- Of the first n numbers those at which f is above 0, as values, and how many these are. -/
def inkL (f : Nat → Int) : Nat → List Value
  | 0 => []
  | n + 1 => inkL f n ++ (if 0 < f n then [.int .i64 (n : Int)] else [])
def inkN (f : Nat → Int) : Nat → Nat
  | 0 => 0
  | n + 1 => inkN f n + (if 0 < f n then 1 else 0)
theorem inkN_le (f : Nat → Int) (n : Nat) : inkN f n ≤ n := by
  induction n with
  | zero => exact Nat.le_refl _
  | succ n ih => show inkN f n + (if 0 < f n then 1 else 0) ≤ n + 1; split <;> omega
theorem ink_yes {f : Nat → Int} {n : Nat} (h : 0 < f n) : inkL f (n + 1) = inkL f n ++ [.int .i64 (n : Int)] ∧ inkN f (n + 1) = inkN f n + 1 := by
  constructor
  · show inkL f n ++ (if 0 < f n then _ else _) = _; rw [if_pos h]
  · show inkN f n + (if 0 < f n then 1 else 0) = _; rw [if_pos h]
theorem ink_no {f : Nat → Int} {n : Nat} (h : ¬ 0 < f n) : inkL f (n + 1) = inkL f n ∧ inkN f (n + 1) = inkN f n := by
  constructor
  · show inkL f n ++ (if 0 < f n then _ else _) = _; rw [if_neg h, List.append_nil]
  · show inkN f n + (if 0 < f n then 1 else 0) = _; rw [if_neg h]; rfl
theorem owns_empty1 (w : World) (e : TypeId) : (w.alloc (.cells #[] e)).ownsRow w.heap.size e 1 (.slice (some ⟨w.heap.size, 0, none⟩) 0 0) 0 [] :=
  ⟨rfl, .inr ⟨w.heap.size, 0, #[], rfl, Nat.le_refl _, by unfold World.alloc; exact Array.getElem?_push_size, Nat.le_refl _, by unfold maxLen; omega, rfl, rfl⟩⟩
theorem i64_info : ∃ i z, Tryz.prog.info? 2 = some i ∧ i.zero = some z ∧ i.size = 1 ∧ i.bytes = 8 ∧ z.cells.size = 1 := by
  have h : (match Tryz.prog.info? 2 with | some i => (match i.zero with | some z => i.size == 1 && i.bytes == 8 && z.cells.size == 1 | none => false) | none => false) = true := by kernel_rfl
  split at h
  · rename_i i hi
    split at h
    · rename_i z hz
      simp only [Bool.and_eq_true, beq_iff_eq] at h
      exact ⟨i, z, hi, hz, h.1.1, h.1.2, h.2⟩
    · cases h
  · cases h
/-- A value that owns n elements has the length n, whichever of the two it is. -/
theorem owns_len {w : World} {base : Nat} {e : TypeId} {s : Nat} {v : Value} {n : Nat} {xs : List Value} (h : w.ownsRow base e s v n xs) : ∃ a cap, v = .slice a n cap := by
  rcases h.2 with ⟨rfl, rfl⟩ | ⟨g, cap, cur, rfl, _⟩
  · exact ⟨_, _, rfl⟩
  · exact ⟨_, _, rfl⟩
theorem owns_below {w w' : World} {base : Nat} {e : TypeId} {s : Nat} {v : Value} {n : Nat} {xs : List Value} (h : w.ownsRow base e s v n xs) (hb : Below w.heap.size w w') : w'.ownsRow base e s v n xs := by
  refine ⟨h.1, ?_⟩
  rcases h.2 with hn | ⟨g, cap, cur, rfl, hg, hgg, rest⟩
  · exact .inl hn
  · exact .inr ⟨g, cap, cur, rfl, hg, (hb.block g (Array.getElem?_eq_some_iff.1 hgg).1).trans hgg, rest⟩
def InkR (f : Nat → Int) (w : World) (i v : Value) (wr : World) : Prop := ∃ k : Nat, k ≤ 3 ∧ i = .int .i64 k ∧ Below w.heap.size w wr ∧ wr.ownsRow w.heap.size 2 1 v (inkN f k) (inkL f k)
noncomputable def inkFn (c : Nat → Int) : Nat → Int := fun j => cnt c (c 0).toNat ((j : Int) + 1) ((c 1).toNat * (c 0).toNat)
noncomputable def inkC (c : Nat → Int) : Nat := if okP c = true then inkN (inkFn c) 3 else 0
noncomputable def inkE (c : Nat → Int) (j : Nat) : Int := intOf (((inkL (inkFn c) 3)[j]?).getD (.int .i64 0))
theorem inkL_len (f : Nat → Int) (n : Nat) : (inkL f n).length = inkN f n := by
  induction n with
  | zero => rfl
  | succ n ih =>
    show (inkL f n ++ (if 0 < f n then _ else _)).length = inkN f n + (if 0 < f n then 1 else 0)
    rw [List.length_append, ih]; split <;> rfl
theorem inkL_get (f : Nat → Int) (n : Nat) : ∀ u ∈ inkL f n, ∃ a, u = .int .i64 a := by
  induction n with
  | zero => intro u h; cases h
  | succ n ih =>
    intro u h
    rcases List.mem_append.1 h with h | h
    · exact ih u h
    · split at h
      · exact ⟨_, List.mem_singleton.1 h⟩
      · cases h
theorem inkE_at (c : Nat → Int) (j : Nat) (h : j < inkN (inkFn c) 3 * 1) : (inkL (inkFn c) 3)[j]? = some (.int .i64 (inkE c j)) := by
  have hj : j < (inkL (inkFn c) 3).length := by rw [inkL_len]; omega
  obtain ⟨a, ha⟩ := inkL_get (inkFn c) 3 _ (List.getElem_mem hj)
  unfold inkE
  rw [List.getElem?_eq_getElem hj, ha]; rfl
theorem inkC_yes {c : Nat → Int} (ho : okP c = true) : inkC c = inkN (inkFn c) 3 := if_pos ho
theorem inkC_no {c : Nat → Int} (ho : okP c = false) : inkC c = 0 := if_neg (by simp [ho])
theorem inkFn_is {c : Nat → Int} {W H : Nat} (hW : c 0 = W) (hH : c 1 = H) : inkFn c = fun j : Nat => cnt c W ((j : Int) + 1) (H * W) := by
  unfold inkFn; rw [hW, hH, Int.toNat_natCast, Int.toNat_natCast]
end Go.Proofs.YtejnejplofddnaaGreatDoor
/- The text of folds: the program. -/
namespace Go.Proofs.YtejnejplofddnaaGreatDoor
open Go.RowKit
set_option linter.unusedVariables false
set_option linter.unusedSimpArgs false
set_option maxRecDepth 100000
theorem grown_row {w w' : World} {row : Option Nat} (g : w.grownBy w' row) {k : Nat} (hk : k < w.heap.size) (hne : some k ≠ row) : rowOf w' k = rowOf w k := by unfold rowOf; rw [g.block k hk hne]
theorem owns_lt {w : World} {base : Nat} {e : TypeId} {size : Nat} {v : Value} {n : Nat} {xs : List Value} (h : w.ownsRow base e size v n xs) : ∀ k, v.ownBlock = some k → k < w.heap.size := by
  intro k hk
  rcases h.2 with ⟨rfl, _⟩ | ⟨g, cap, cur, rfl, hb, hg, _⟩
  · simp [Value.ownBlock] at hk
  · simp [Value.ownBlock] at hk; subst hk; exact (Array.getElem?_eq_some_iff.1 hg).1
theorem owns_slice {w : World} {base : Nat} {e : TypeId} {s : Nat} {v : Value} {n : Nat} {xs : List Value} (h : w.ownsRow base e s v n xs) (hn : 0 < n) : ∃ g cap, v = .slice (some ⟨g, 0, none⟩) n cap := by
  rcases h.2 with ⟨rfl, h0⟩ | ⟨g, cap, cur, rfl, _⟩
  · omega
  · exact ⟨g, cap, rfl⟩
def strV (l : List (List UInt8)) : List Value := l.map fun x => .string (tx x)
theorem join_is (F : Nat → Fd) (n : Nat) : Lib.join (((foldW F n).map tx).map (·.data.toList)) (tx [32]).data.toList = foldsTx F n := by
  have e : ((foldW F n).map tx).map (·.data.toList) = foldW F n := by
    rw [List.map_map]
    exact (List.map_congr_left (fun l _ => by show (tx l).data.toList = l; unfold tx; rfl)).trans (List.map_id _)
  rw [e, ← foldW_join F n]; rfl
theorem owns_cells {w : World} {base : Nat} {e : TypeId} {g cap n : Nat} {l : List (List UInt8)} (h : w.ownsRow base e 1 (.slice (some ⟨g, 0, none⟩) n cap) n (strV l)) : g < w.heap.size ∧ n ≤ cap ∧ ∀ (j : Nat) x, (l.map tx)[j]? = some x → w.cell? ⟨g, 0 + j, none⟩ = some (.string x) := by
  obtain ⟨hl, ⟨h0, -⟩ | ⟨g', cap', cur, hv, hb, hg, h1, h2, h3, ht⟩⟩ := h
  · cases h0
  · simp only [Value.slice.injEq, Option.some.injEq, Addr.mk.injEq] at hv
    obtain ⟨⟨rfl, -, -⟩, -, rfl⟩ := hv
    refine ⟨(Array.getElem?_eq_some_iff.1 hg).1, h1, fun j x hx => ?_⟩
    have hrow : rowOf w g = cur := by simp [rowOf, hg, objRow]
    rw [cell_row, hrow, Nat.zero_add, ← Array.getElem?_toList]
    have hj : j < n := by
      have := (List.getElem?_eq_some_iff.1 hx).1
      have h4 : (strV l).length = n := by rw [hl]; omega
      unfold strV at h4
      simp at this h4
      omega
    have := congrArg (fun q => q[j]?) ht
    simp only [List.getElem?_take] at this
    rw [if_pos (by omega)] at this
    rw [this]
    unfold strV
    rw [List.getElem?_map] at hx ⊢
    cases hlj : l[j]? with
    | none => rw [hlj] at hx; cases hx
    | some y => rw [hlj] at hx; simp at hx; subst hx; rfl
theorem str_info : ∃ i z, Tryz.prog.info? 9 = some i ∧ i.zero = some z ∧ i.size = 1 ∧ i.bytes = 16 ∧ z.cells.size = 1 := by
  have h : (match Tryz.prog.info? 9 with | some i => (match i.zero with | some z => i.size == 1 && i.bytes == 16 && z.cells.size == 1 | none => false) | none => false) = true := by kernel_rfl
  split at h
  · rename_i i hi
    split at h
    · rename_i z hz
      simp only [Bool.and_eq_true, beq_iff_eq] at h
      exact ⟨i, z, hi, hz, h.1.1, h.1.2, h.2⟩
    · cases h
  · cases h
end Go.Proofs.YtejnejplofddnaaGreatDoor
