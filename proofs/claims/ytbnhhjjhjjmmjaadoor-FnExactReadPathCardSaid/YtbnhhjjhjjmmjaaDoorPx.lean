/- Several texts in one: PText PTextS PTextI. -/
import Derived.Test.YtbnhhjjhjjmmjaaDoorMark
import Derived.Test.YtbnhhjjhjjmmjaaDoorPath
import Derived.Deep.RegionHeld3
import Derived.Test.YtbnhhjjhjjmmjaaDoorMarkS
/- The text of a path: what both sides write, and the reference. -/
namespace Go.Proofs.YtbnhhjjhjjmmjaaDoor
open Go.RowKit
set_option linter.unusedVariables false
set_option linter.unusedSimpArgs false
set_option maxRecDepth 100000
def dirB : Nat → UInt8
  | 0 => 110
  | 1 => 101
  | 2 => 115
  | _ => 119
def dirK (x y u v : Int) : Nat → List UInt8
  | 0 => []
  | k + 1 => dirK x y u v k ++ (if sameP (nx k x y) u v = true then [dirB k] else [])
theorem dirK_len (x y u v : Int) : ∀ k, (dirK x y u v k).length ≤ k
  | 0 => Nat.le_refl _
  | k + 1 => by
    have := dirK_len x y u v k
    show (dirK x y u v k ++ _).length ≤ _
    rw [List.length_append]
    split <;> simp <;> omega
theorem dirK_yes {x y u v : Int} {k : Nat} (h : sameP (nx k x y) u v = true) : dirK x y u v (k + 1) = dirK x y u v k ++ [dirB k] := by show dirK x y u v k ++ _ = _; rw [if_pos h]
theorem dirK_no {x y u v : Int} {k : Nat} (h : sameP (nx k x y) u v = false) : dirK x y u v (k + 1) = dirK x y u v k := by show dirK x y u v k ++ _ = _; rw [if_neg (by simp [h])]; simp
theorem dirK_is {x y u v : Int} (hx : 0 ≤ x ∧ x ≤ 7) (hy : 0 ≤ y ∧ y ≤ 7) {m : Nat} (hm : m < 4) (h : sameP (nx m x y) u v = true) (hno : ∀ j, j < m → sameP (nx j x y) u v = false) : dirK x y u v 4 = [dirB m] := by
  have a1 : IntKind.i8.wrap (y - 1) = y - 1 := by simp only [IntKind.wrap, IntKind.bits, IntKind.signed] <;> simp <;> omega
  have a2 : IntKind.i8.wrap (x + 1) = x + 1 := by simp only [IntKind.wrap, IntKind.bits, IntKind.signed] <;> simp <;> omega
  have a3 : IntKind.i8.wrap (y + 1) = y + 1 := by simp only [IntKind.wrap, IntKind.bits, IntKind.signed] <;> simp <;> omega
  have a4 : IntKind.i8.wrap (x - 1) = x - 1 := by simp only [IntKind.wrap, IntKind.bits, IntKind.signed] <;> simp <;> omega
  have key : ∀ j, j < 4 → j ≠ m → sameP (nx j x y) u v = false := by
    intro j hj hne
    rcases (show m = 0 ∨ m = 1 ∨ m = 2 ∨ m = 3 by omega) with rfl | rfl | rfl | rfl <;>
    rcases (show j = 0 ∨ j = 1 ∨ j = 2 ∨ j = 3 by omega) with rfl | rfl | rfl | rfl <;>
    first
    | omega
    | (simp only [sameP, nx, a1, a2, a3, a4, Bool.and_eq_true, decide_eq_true_eq, Bool.and_eq_false_iff, decide_eq_false_iff_not] at h ⊢; omega)
  rcases (show m = 0 ∨ m = 1 ∨ m = 2 ∨ m = 3 by omega) with rfl | rfl | rfl | rfl
  · rw [dirK_no (k := 3) (key 3 (by omega) (by omega)), dirK_no (k := 2) (key 2 (by omega) (by omega)), dirK_no (k := 1) (key 1 (by omega) (by omega)), dirK_yes (k := 0) h]; rfl
  · rw [dirK_no (k := 3) (key 3 (by omega) (by omega)), dirK_no (k := 2) (key 2 (by omega) (by omega)), dirK_yes (k := 1) h, dirK_no (k := 0) (key 0 (by omega) (by omega))]; rfl
  · rw [dirK_no (k := 3) (key 3 (by omega) (by omega)), dirK_yes (k := 2) h, dirK_no (k := 1) (key 1 (by omega) (by omega)), dirK_no (k := 0) (key 0 (by omega) (by omega))]; rfl
  · rw [dirK_yes (k := 3) h, dirK_no (k := 2) (key 2 (by omega) (by omega)), dirK_no (k := 1) (key 1 (by omega) (by omega)), dirK_no (k := 0) (key 0 (by omega) (by omega))]; rfl
def stepsTx (f : Nat → Int) : Nat → List UInt8
  | 0 => []
  | k + 1 => stepsTx f k ++ dirK (f (k * 2)) (f (k * 2 + 1)) (f ((k + 1) * 2)) (f ((k + 1) * 2 + 1)) 4
theorem stepsTx_len (f : Nat → Int) : ∀ k, (stepsTx f k).length ≤ 4 * k
  | 0 => Nat.le_refl _
  | k + 1 => by
    have := stepsTx_len f k
    have := dirK_len (f (k * 2)) (f (k * 2 + 1)) (f ((k + 1) * 2)) (f ((k + 1) * 2 + 1)) 4
    show (stepsTx f k ++ _).length ≤ _
    rw [List.length_append]
    omega
def headTx (f : Nat → Int) : List UInt8 := [by8 (48 + f 0), 44, by8 (48 + f 1)]
def gapTx (n : Nat) : List UInt8 := if 1 < n then [32] else []
def pathTx (f : Nat → Int) (n : Nat) : List UInt8 := headTx f ++ gapTx n ++ stepsTx f (n - 1)
noncomputable def toldB (f : Nat → Int) (n : Nat) : Bool := stepsB f n && cells8 f n
noncomputable def pTx (f : Nat → Int) (n : Nat) : List UInt8 := if toldB f n = true then pathTx f n else []
theorem told_bad {f : Nat → Int} {n k : Nat} (hk : k < n) (h : ¬ ((0 ≤ f (k * 2) ∧ f (k * 2) ≤ 7) ∧ 0 ≤ f (k * 2 + 1) ∧ f (k * 2 + 1) ≤ 7)) : toldB f n = false := by unfold toldB; rw [cells8_no hk h, Bool.and_false]
theorem told_noS {f : Nat → Int} {n k : Nat} (h0 : 0 < k) (hk : k < n) (h : stepAt f k = false) : toldB f n = false := by unfold toldB; rw [stepsB_no h0 hk h]; rfl
theorem told_yes {f : Nat → Int} {n : Nat} (h1 : CellsTo f n) (h2 : StepsTo f n) : toldB f n = inB n 1 80 := by unfold toldB; rw [cells8_yes h1, stepsB_yes h2, Bool.and_true]
theorem l00In_b (n lo hi : Int) (w : World) : Calls Tryd.prog 81 #[.int .i64 n, .int .i64 lo, .int .i64 hi] w fun e w' => e = .returned (.bool (inB n lo hi)) ∧ Below w.heap.size w w' :=
  (l00In_any n lo hi w).mono fun _ _ h => ⟨h.1, h.2 ▸ Below.refl _ _⟩
set_option maxHeartbeats 8000000 in
theorem l04Told_any (v : Value) (n : Nat) (f : Nat → Int) (hn : n ≤ 1048576) (hf : ∀ j, j < n * 2 → -128 ≤ f j ∧ f j ≤ 127) (w : World) (h : SlA .i8 2 w v n f) :
    Calls Tryd.prog 50 #[v] w fun e w' => e = .returned (.bool (toldB f n)) ∧ Below w.heap.size w w' := by
  obtain ⟨a, cap, rfl⟩ := h.len
  have HH := Lib.hid h
  have HF := Lib.hid hf
  clear h hf
  go_enter Tryd.func50, Tryd.ntmps50
  go_wp2
  go_loopw [3] (fun i wr => ∃ k : Nat, k ≤ n ∧ i = .int .i64 k ∧ Below w.heap.size w wr ∧ CellsTo f k ∧ StepsTo f k) (fun i wr => n + 1 - (intOf i).toNat)
  case atStart => exact ⟨0, by omega, rfl, by repeat' (first | with_reducible exact Below.refl _ _ | with_reducible assumption | with_reducible refine Below.drew ?_ | with_reducible refine Below.drewN ?_ _ | with_reducible refine Below.alloc ?_ ?_ _ | with_reducible refine Below.setCell ?_ ?_ _ | with_reducible refine Below.setRow ?_ ?_ _ | with_reducible refine below_step (by assumption) ?_ ?_ | (show (_ : Nat) ≤ _; first | omega | (simp <;> omega))), fun i h1 => by omega, fun i h0 h1 => by omega⟩
  case round =>
    obtain ⟨k, hk1, rfl, hb, hin, hst⟩ := hrel
    have hsz := hb.size
    have HST := Lib.hid hst
    have HIN := Lib.hid hin
    clear hst hin
    by_cases hlt : k < n
    · obtain ⟨g, o, cap', hv, hg, hcells⟩ := HH.out.pos (by omega)
      simp only [Value.slice.injEq] at hv
      obtain ⟨rfl, -, rfl⟩ := hv
      have hr1 := keep_row hb hg
      have hw1 : g < wr.heap.size := Nat.lt_of_lt_of_le hg hb.size
      have hwm : IntKind.i64.wrap (k : Int) = (k : Int) := IntWalk.i64_in _ (by omega)
      have hx := HF.out (k * 2) (by omega)
      have hy := HF.out (k * 2 + 1) (by omega)
      have e1 := hcells (k * 2) (by omega)
      have e2 := hcells (k * 2 + 1) (by omega)
      rw [← hr1] at e1 e2
      rw [← Nat.add_assoc] at e2
      have hk9 : ¬ n ≤ k := by omega
      have hk8 : ¬ ((k : Int) < 0) := by omega
      rcases Bool.eq_false_or_eq_true (inB (f (k * 2)) 0 7) with h1 | h1
      case inr =>
        have HX := Lib.hid (fun w => h1 ▸ l00In_b (f (k * 2)) 0 7 w)
        have HE := Lib.hid (told_bad (f := f) hlt (fun h => by have := (inB_false.1 h1); omega))
        clear h1 hcells hr1
        generalize f (k * 2) = x at *
        generalize f (k * 2 + 1) = y at *
        have hwx : IntKind.i64.wrap x = x := IntWalk.i64_in _ (by omega)
        go_wp2
        (refine wp_region_held (S := fun w' => ((rowOf w' g)[o + k * 2]? = some (.int .i8 x))) (by kernel_rfl) ?_); (simp only [World.drew_eq]); (refine wpAnyH_take (i := 0) rfl (by kernel_rfl) (by kernel_rfl) (by kernel_rfl) (fun _ _ _ h => h) (yieldsIf_move rfl rfl) (by go_simp) ?_); (try simp only [Act.put, Act.eval, List.getElem_toArray, List.getElem_cons_zero, List.getElem_cons_succ, List.setIfInBounds_toArray, List.set_cons_zero, List.set_cons_succ, Array.getD_eq_getD_getElem?, List.getElem?_toArray, List.getElem?_cons_zero, List.getElem?_cons_succ, Option.getD_some]); (refine wpAnyH_take (i := 1) rfl (by kernel_rfl) (by kernel_rfl) (by kernel_rfl) (fun _ _ _ h => h) (yieldsIf_move rfl rfl) (by go_simp) ?_); (try simp only [Act.put, Act.eval, List.getElem_toArray, List.getElem_cons_zero, List.getElem_cons_succ, List.setIfInBounds_toArray, List.set_cons_zero, List.set_cons_succ, Array.getD_eq_getD_getElem?, List.getElem?_toArray, List.getElem?_cons_zero, List.getElem?_cons_succ, Option.getD_some]); (refine wpAnyH_take (i := 2) (v := .pointer (some ⟨g, o + k * 2, none⟩)) rfl (by kernel_rfl) (by kernel_rfl) (by kernel_rfl) (fun _ _ _ h => h) (.inl ⟨by first | (simp [Region.wanted]; done) | rfl | simp [Region.wanted, yielded], fun w _ => by unfold execOp; go_simp⟩) (by go_simp) ?_); (try simp only [Act.put, Act.eval, List.getElem_toArray, List.getElem_cons_zero, List.getElem_cons_succ, List.setIfInBounds_toArray, List.set_cons_zero, List.set_cons_succ, Array.getD_eq_getD_getElem?, List.getElem?_toArray, List.getElem?_cons_zero, List.getElem?_cons_succ, Option.getD_some]); (refine wpAnyH_take (i := 3) (v := .pointer (some ⟨g, o + k * 2, none⟩)) rfl (by kernel_rfl) (by kernel_rfl) (by kernel_rfl) (fun _ _ _ h => h) (.inl ⟨by first | (simp [Region.wanted]; done) | rfl | simp [Region.wanted, yielded], fun w _ => by unfold execOp; go_simp⟩) (by go_simp) ?_); (try simp only [Act.put, Act.eval, List.getElem_toArray, List.getElem_cons_zero, List.getElem_cons_succ, List.setIfInBounds_toArray, List.set_cons_zero, List.set_cons_succ, Array.getD_eq_getD_getElem?, List.getElem?_toArray, List.getElem?_cons_zero, List.getElem?_cons_succ, Option.getD_some]); (refine wpAnyH_take (i := 4) rfl (by kernel_rfl) (by kernel_rfl) (by kernel_rfl) (fun _ _ _ h => h) (yieldsIf_load (v := .int .i8 x) rfl rfl rfl (fun w h1 => by go_simp)) (by go_simp) ?_); (try simp only [Act.put, Act.eval, List.getElem_toArray, List.getElem_cons_zero, List.getElem_cons_succ, List.setIfInBounds_toArray, List.set_cons_zero, List.set_cons_succ, Array.getD_eq_getD_getElem?, List.getElem?_toArray, List.getElem?_cons_zero, List.getElem?_cons_succ, Option.getD_some]); (refine wpAnyH_take (i := 5) (v := .int .i64 x) rfl (by kernel_rfl) (by kernel_rfl) (by kernel_rfl) (fun _ _ _ h => h) (.inl ⟨by first | (simp [Region.wanted]; done) | rfl | simp [Region.wanted, yielded], fun w _ => by unfold execOp; go_simp⟩) (by go_simp) ?_); (try simp only [Act.put, Act.eval, List.getElem_toArray, List.getElem_cons_zero, List.getElem_cons_succ, List.setIfInBounds_toArray, List.set_cons_zero, List.set_cons_succ, Array.getD_eq_getD_getElem?, List.getElem?_toArray, List.getElem?_cons_zero, List.getElem?_cons_succ, Option.getD_some]); (refine wpAnyH_one (i := 6) (by kernel_rfl) rfl rfl ?_); (go_simp); (first | (go_at_call 81; refine (HX.out _).mono ?_; rintro e w1 ⟨rfl, hb1⟩; have r1 := keep_rowA hb1; have f1 := keep_frA hb1; have s1 := hb1.size; (try simp only [World.size_alloc, World.size_setCell, setRow_size, World.size_drew, size_drewNm] at r1 f1 s1))); (refine ⟨(by go_simp), ?_⟩); (try simp only [Act.put, Act.eval, List.getElem_toArray, List.getElem_cons_zero, List.getElem_cons_succ, List.setIfInBounds_toArray, List.set_cons_zero, List.set_cons_succ, Array.getD_eq_getD_getElem?, List.getElem?_toArray, List.getElem?_cons_zero, List.getElem?_cons_succ, Option.getD_some]); (refine wpAnyH_take (i := 7) (v := .bool true) rfl (by kernel_rfl) (by kernel_rfl) (by kernel_rfl) (fun _ _ _ h => h) (.inl ⟨by first | (simp [Region.wanted]; done) | rfl | simp [Region.wanted, yielded], fun w _ => by unfold execOp; go_simp⟩) (by go_simp) ?_); (try simp only [Act.put, Act.eval, List.getElem_toArray, List.getElem_cons_zero, List.getElem_cons_succ, List.setIfInBounds_toArray, List.set_cons_zero, List.set_cons_succ, Array.getD_eq_getD_getElem?, List.getElem?_toArray, List.getElem?_cons_zero, List.getElem?_cons_succ, Option.getD_some]); (refine wpAnyH_take (i := 8) rfl (by kernel_rfl) (by kernel_rfl) (by kernel_rfl) (fun _ _ _ h => h) (yieldsIf_move rfl rfl) (by go_simp) ?_); (try simp only [Act.put, Act.eval, List.getElem_toArray, List.getElem_cons_zero, List.getElem_cons_succ, List.setIfInBounds_toArray, List.set_cons_zero, List.set_cons_succ, Array.getD_eq_getD_getElem?, List.getElem?_toArray, List.getElem?_cons_zero, List.getElem?_cons_succ, Option.getD_some]); (refine wpAnyH_take (i := 9) (v := undef) rfl (by kernel_rfl) (by kernel_rfl) (by kernel_rfl) (fun _ _ _ h => h) (.inr ⟨by first | rfl | simp [Region.wanted, yielded], rfl⟩) (by go_simp) ?_); (try simp only [Act.put, Act.eval, List.getElem_toArray, List.getElem_cons_zero, List.getElem_cons_succ, List.setIfInBounds_toArray, List.set_cons_zero, List.set_cons_succ, Array.getD_eq_getD_getElem?, List.getElem?_toArray, List.getElem?_cons_zero, List.getElem?_cons_succ, Option.getD_some]); (refine wpAnyH_take (i := 10) (v := undef) rfl (by kernel_rfl) (by kernel_rfl) (by kernel_rfl) (fun _ _ _ h => h) (.inr ⟨by first | rfl | simp [Region.wanted, yielded], rfl⟩) (by go_simp) ?_); (try simp only [Act.put, Act.eval, List.getElem_toArray, List.getElem_cons_zero, List.getElem_cons_succ, List.setIfInBounds_toArray, List.set_cons_zero, List.set_cons_succ, Array.getD_eq_getD_getElem?, List.getElem?_toArray, List.getElem?_cons_zero, List.getElem?_cons_succ, Option.getD_some]); (refine wpAnyH_take (i := 11) (v := undef) rfl (by kernel_rfl) (by kernel_rfl) (by kernel_rfl) (fun _ _ _ h => h) (.inr ⟨by first | rfl | simp [Region.wanted, yielded], rfl⟩) (by go_simp) ?_); (try simp only [Act.put, Act.eval, List.getElem_toArray, List.getElem_cons_zero, List.getElem_cons_succ, List.setIfInBounds_toArray, List.set_cons_zero, List.set_cons_succ, Array.getD_eq_getD_getElem?, List.getElem?_toArray, List.getElem?_cons_zero, List.getElem?_cons_succ, Option.getD_some]); (refine wpAnyH_take (i := 12) (v := undef) rfl (by kernel_rfl) (by kernel_rfl) (by kernel_rfl) (fun _ _ _ h => h) (.inr ⟨by first | rfl | simp [Region.wanted, yielded], rfl⟩) (by go_simp) ?_); (try simp only [Act.put, Act.eval, List.getElem_toArray, List.getElem_cons_zero, List.getElem_cons_succ, List.setIfInBounds_toArray, List.set_cons_zero, List.set_cons_succ, Array.getD_eq_getD_getElem?, List.getElem?_toArray, List.getElem?_cons_zero, List.getElem?_cons_succ, Option.getD_some]); (refine wpAnyH_take (i := 13) (v := undef) rfl (by kernel_rfl) (by kernel_rfl) (by kernel_rfl) (fun _ _ _ h => h) (.inr ⟨by first | rfl | simp [Region.wanted, yielded], rfl⟩) (by go_simp) ?_); (try simp only [Act.put, Act.eval, List.getElem_toArray, List.getElem_cons_zero, List.getElem_cons_succ, List.setIfInBounds_toArray, List.set_cons_zero, List.set_cons_succ, Array.getD_eq_getD_getElem?, List.getElem?_toArray, List.getElem?_cons_zero, List.getElem?_cons_succ, Option.getD_some]); (refine wpAnyH_take (i := 14) (v := undef) rfl (by kernel_rfl) (by kernel_rfl) (by kernel_rfl) (fun _ _ _ h => h) (.inr ⟨by first | rfl | simp [Region.wanted, yielded], rfl⟩) (by go_simp) ?_); (try simp only [Act.put, Act.eval, List.getElem_toArray, List.getElem_cons_zero, List.getElem_cons_succ, List.setIfInBounds_toArray, List.set_cons_zero, List.set_cons_succ, Array.getD_eq_getD_getElem?, List.getElem?_toArray, List.getElem?_cons_zero, List.getElem?_cons_succ, Option.getD_some]); (refine wpAnyH_take (i := 15) (v := undef) rfl (by kernel_rfl) (by kernel_rfl) (by kernel_rfl) (fun _ _ _ h => h) (.inr ⟨by first | rfl | simp [Region.wanted, yielded], rfl⟩) (by go_simp) ?_); (try simp only [Act.put, Act.eval, List.getElem_toArray, List.getElem_cons_zero, List.getElem_cons_succ, List.setIfInBounds_toArray, List.set_cons_zero, List.set_cons_succ, Array.getD_eq_getD_getElem?, List.getElem?_toArray, List.getElem?_cons_zero, List.getElem?_cons_succ, Option.getD_some]); (refine wpAnyH_take (i := 16) (v := undef) rfl (by kernel_rfl) (by kernel_rfl) (by kernel_rfl) (fun _ _ _ h => h) (.inr ⟨by first | rfl | simp [Region.wanted, yielded], rfl⟩) (by go_simp) ?_); (try simp only [Act.put, Act.eval, List.getElem_toArray, List.getElem_cons_zero, List.getElem_cons_succ, List.setIfInBounds_toArray, List.set_cons_zero, List.set_cons_succ, Array.getD_eq_getD_getElem?, List.getElem?_toArray, List.getElem?_cons_zero, List.getElem?_cons_succ, Option.getD_some]); (refine wpAnyH_take (i := 17) (v := .bool true) rfl (by kernel_rfl) (by kernel_rfl) (by kernel_rfl) (fun _ _ _ h => h) (.inl ⟨by first | (simp [Region.wanted]; done) | rfl | simp [Region.wanted, yielded], fun w _ => by unfold execOp; go_simp⟩) (by go_simp) ?_); (try simp only [Act.put, Act.eval, List.getElem_toArray, List.getElem_cons_zero, List.getElem_cons_succ, List.setIfInBounds_toArray, List.set_cons_zero, List.set_cons_succ, Array.getD_eq_getD_getElem?, List.getElem?_toArray, List.getElem?_cons_zero, List.getElem?_cons_succ, Option.getD_some]); (refine wpAnyH_take (i := 18) rfl (by kernel_rfl) (by kernel_rfl) (by kernel_rfl) (fun _ _ _ h => h) (yieldsIf_move rfl rfl) (by go_simp) ?_); (try simp only [Act.put, Act.eval, List.getElem_toArray, List.getElem_cons_zero, List.getElem_cons_succ, List.setIfInBounds_toArray, List.set_cons_zero, List.set_cons_succ, Array.getD_eq_getD_getElem?, List.getElem?_toArray, List.getElem?_cons_zero, List.getElem?_cons_succ, Option.getD_some]); (refine wpAnyH_take (i := 19) (v := undef) rfl (by kernel_rfl) (by kernel_rfl) (by kernel_rfl) (fun _ _ _ h => h) (.inr ⟨by first | rfl | simp [Region.wanted, yielded], rfl⟩) (by go_simp) ?_); (try simp only [Act.put, Act.eval, List.getElem_toArray, List.getElem_cons_zero, List.getElem_cons_succ, List.setIfInBounds_toArray, List.set_cons_zero, List.set_cons_succ, Array.getD_eq_getD_getElem?, List.getElem?_toArray, List.getElem?_cons_zero, List.getElem?_cons_succ, Option.getD_some]); (refine wpAnyH_take (i := 20) (v := undef) rfl (by kernel_rfl) (by kernel_rfl) (by kernel_rfl) (fun _ _ _ h => h) (.inr ⟨by first | rfl | simp [Region.wanted, yielded], rfl⟩) (by go_simp) ?_); (try simp only [Act.put, Act.eval, List.getElem_toArray, List.getElem_cons_zero, List.getElem_cons_succ, List.setIfInBounds_toArray, List.set_cons_zero, List.set_cons_succ, Array.getD_eq_getD_getElem?, List.getElem?_toArray, List.getElem?_cons_zero, List.getElem?_cons_succ, Option.getD_some]); (refine wpAnyH_take (i := 21) (v := undef) rfl (by kernel_rfl) (by kernel_rfl) (by kernel_rfl) (fun _ _ _ h => h) (.inr ⟨by first | rfl | simp [Region.wanted, yielded], rfl⟩) (by go_simp) ?_); (try simp only [Act.put, Act.eval, List.getElem_toArray, List.getElem_cons_zero, List.getElem_cons_succ, List.setIfInBounds_toArray, List.set_cons_zero, List.set_cons_succ, Array.getD_eq_getD_getElem?, List.getElem?_toArray, List.getElem?_cons_zero, List.getElem?_cons_succ, Option.getD_some]); (refine wpAnyH_take (i := 22) (v := undef) rfl (by kernel_rfl) (by kernel_rfl) (by kernel_rfl) (fun _ _ _ h => h) (.inr ⟨by first | rfl | simp [Region.wanted, yielded], rfl⟩) (by go_simp) ?_); (try simp only [Act.put, Act.eval, List.getElem_toArray, List.getElem_cons_zero, List.getElem_cons_succ, List.setIfInBounds_toArray, List.set_cons_zero, List.set_cons_succ, Array.getD_eq_getD_getElem?, List.getElem?_toArray, List.getElem?_cons_zero, List.getElem?_cons_succ, Option.getD_some]); (refine wpAnyH_take (i := 23) (v := undef) rfl (by kernel_rfl) (by kernel_rfl) (by kernel_rfl) (fun _ _ _ h => h) (.inr ⟨by first | rfl | simp [Region.wanted, yielded], rfl⟩) (by go_simp) ?_); (try simp only [Act.put, Act.eval, List.getElem_toArray, List.getElem_cons_zero, List.getElem_cons_succ, List.setIfInBounds_toArray, List.set_cons_zero, List.set_cons_succ, Array.getD_eq_getD_getElem?, List.getElem?_toArray, List.getElem?_cons_zero, List.getElem?_cons_succ, Option.getD_some]); (refine wpAnyH_take (i := 24) (v := undef) rfl (by kernel_rfl) (by kernel_rfl) (by kernel_rfl) (fun _ _ _ h => h) (.inr ⟨by first | rfl | simp [Region.wanted, yielded], rfl⟩) (by go_simp) ?_); (try simp only [Act.put, Act.eval, List.getElem_toArray, List.getElem_cons_zero, List.getElem_cons_succ, List.setIfInBounds_toArray, List.set_cons_zero, List.set_cons_succ, Array.getD_eq_getD_getElem?, List.getElem?_toArray, List.getElem?_cons_zero, List.getElem?_cons_succ, Option.getD_some]); (refine wpAnyH_take (i := 25) (v := undef) rfl (by kernel_rfl) (by kernel_rfl) (by kernel_rfl) (fun _ _ _ h => h) (.inr ⟨by first | rfl | simp [Region.wanted, yielded], rfl⟩) (by go_simp) ?_); (try simp only [Act.put, Act.eval, List.getElem_toArray, List.getElem_cons_zero, List.getElem_cons_succ, List.setIfInBounds_toArray, List.set_cons_zero, List.set_cons_succ, Array.getD_eq_getD_getElem?, List.getElem?_toArray, List.getElem?_cons_zero, List.getElem?_cons_succ, Option.getD_some]); (refine wpAnyH_take (i := 26) (v := undef) rfl (by kernel_rfl) (by kernel_rfl) (by kernel_rfl) (fun _ _ _ h => h) (.inr ⟨by first | rfl | simp [Region.wanted, yielded], rfl⟩) (by go_simp) ?_); (try simp only [Act.put, Act.eval, List.getElem_toArray, List.getElem_cons_zero, List.getElem_cons_succ, List.setIfInBounds_toArray, List.set_cons_zero, List.set_cons_succ, Array.getD_eq_getD_getElem?, List.getElem?_toArray, List.getElem?_cons_zero, List.getElem?_cons_succ, Option.getD_some]); (refine wpAnyH_take (i := 27) (v := undef) rfl (by kernel_rfl) (by kernel_rfl) (by kernel_rfl) (fun _ _ _ h => h) (.inr ⟨by first | rfl | simp [Region.wanted, yielded], rfl⟩) (by go_simp) ?_); (try simp only [Act.put, Act.eval, List.getElem_toArray, List.getElem_cons_zero, List.getElem_cons_succ, List.setIfInBounds_toArray, List.set_cons_zero, List.set_cons_succ, Array.getD_eq_getD_getElem?, List.getElem?_toArray, List.getElem?_cons_zero, List.getElem?_cons_succ, Option.getD_some]); (refine wpAnyH_take (i := 28) (v := undef) rfl (by kernel_rfl) (by kernel_rfl) (by kernel_rfl) (fun _ _ _ h => h) (.inr ⟨by first | rfl | simp [Region.wanted, yielded], rfl⟩) (by go_simp) ?_); (try simp only [Act.put, Act.eval, List.getElem_toArray, List.getElem_cons_zero, List.getElem_cons_succ, List.setIfInBounds_toArray, List.set_cons_zero, List.set_cons_succ, Array.getD_eq_getD_getElem?, List.getElem?_toArray, List.getElem?_cons_zero, List.getElem?_cons_succ, Option.getD_some]); (refine wpAnyH_take (i := 29) (v := undef) rfl (by kernel_rfl) (by kernel_rfl) (by kernel_rfl) (fun _ _ _ h => h) (.inr ⟨by first | rfl | simp [Region.wanted, yielded], rfl⟩) (by go_simp) ?_); (try simp only [Act.put, Act.eval, List.getElem_toArray, List.getElem_cons_zero, List.getElem_cons_succ, List.setIfInBounds_toArray, List.set_cons_zero, List.set_cons_succ, Array.getD_eq_getD_getElem?, List.getElem?_toArray, List.getElem?_cons_zero, List.getElem?_cons_succ, Option.getD_some]); (refine wpAnyH_take (i := 30) (v := undef) rfl (by kernel_rfl) (by kernel_rfl) (by kernel_rfl) (fun _ _ _ h => h) (.inr ⟨by first | rfl | simp [Region.wanted, yielded], rfl⟩) (by go_simp) ?_); (try simp only [Act.put, Act.eval, List.getElem_toArray, List.getElem_cons_zero, List.getElem_cons_succ, List.setIfInBounds_toArray, List.set_cons_zero, List.set_cons_succ, Array.getD_eq_getD_getElem?, List.getElem?_toArray, List.getElem?_cons_zero, List.getElem?_cons_succ, Option.getD_some]); (refine wpAnyH_take (i := 31) (v := undef) rfl (by kernel_rfl) (by kernel_rfl) (by kernel_rfl) (fun _ _ _ h => h) (.inr ⟨by first | rfl | simp [Region.wanted, yielded], rfl⟩) (by go_simp) ?_); (try simp only [Act.put, Act.eval, List.getElem_toArray, List.getElem_cons_zero, List.getElem_cons_succ, List.setIfInBounds_toArray, List.set_cons_zero, List.set_cons_succ, Array.getD_eq_getD_getElem?, List.getElem?_toArray, List.getElem?_cons_zero, List.getElem?_cons_succ, Option.getD_some]); (refine wpAnyH_take (i := 32) (v := undef) rfl (by kernel_rfl) (by kernel_rfl) (by kernel_rfl) (fun _ _ _ h => h) (.inr ⟨by first | rfl | simp [Region.wanted, yielded], rfl⟩) (by go_simp) ?_); (try simp only [Act.put, Act.eval, List.getElem_toArray, List.getElem_cons_zero, List.getElem_cons_succ, List.setIfInBounds_toArray, List.set_cons_zero, List.set_cons_succ, Array.getD_eq_getD_getElem?, List.getElem?_toArray, List.getElem?_cons_zero, List.getElem?_cons_succ, Option.getD_some]); (refine wpAnyH_take (i := 33) (v := undef) rfl (by kernel_rfl) (by kernel_rfl) (by kernel_rfl) (fun _ _ _ h => h) (.inr ⟨by first | rfl | simp [Region.wanted, yielded], rfl⟩) (by go_simp) ?_); (try simp only [Act.put, Act.eval, List.getElem_toArray, List.getElem_cons_zero, List.getElem_cons_succ, List.setIfInBounds_toArray, List.set_cons_zero, List.set_cons_succ, Array.getD_eq_getD_getElem?, List.getElem?_toArray, List.getElem?_cons_zero, List.getElem?_cons_succ, Option.getD_some]); (refine wpAnyH_take (i := 34) (v := .bool true) rfl (by kernel_rfl) (by kernel_rfl) (by kernel_rfl) (fun _ _ _ h => h) (.inl ⟨by first | (simp [Region.wanted]; done) | rfl | simp [Region.wanted, yielded], fun w _ => by unfold execOp; go_simp⟩) (by go_simp) ?_); (try simp only [Act.put, Act.eval, List.getElem_toArray, List.getElem_cons_zero, List.getElem_cons_succ, List.setIfInBounds_toArray, List.set_cons_zero, List.set_cons_succ, Array.getD_eq_getD_getElem?, List.getElem?_toArray, List.getElem?_cons_zero, List.getElem?_cons_succ, Option.getD_some]); (refine wpAnyH_done (by kernel_rfl) ?_ _)
        go_wp2
        go_ret
        exact ⟨by rw [HE.out]; rfl, by repeat' (first | with_reducible exact Below.refl _ _ | with_reducible assumption | with_reducible refine Below.drew ?_ | with_reducible refine Below.drewN ?_ _ | with_reducible refine Below.alloc ?_ ?_ _ | with_reducible refine Below.setCell ?_ ?_ _ | with_reducible refine Below.setRow ?_ ?_ _ | with_reducible refine below_step (by assumption) ?_ ?_ | (show (_ : Nat) ≤ _; first | omega | (simp <;> omega)))⟩
      rcases Bool.eq_false_or_eq_true (inB (f (k * 2 + 1)) 0 7) with h2 | h2
      case inr =>
        have HX := Lib.hid (fun w => h1 ▸ l00In_b (f (k * 2)) 0 7 w)
        have HY := Lib.hid (fun w => h2 ▸ l00In_b (f (k * 2 + 1)) 0 7 w)
        have HE := Lib.hid (told_bad (f := f) hlt (fun h => by have := (inB_false.1 h2); omega))
        clear h1 h2 hcells hr1
        generalize f (k * 2) = x at *
        generalize f (k * 2 + 1) = y at *
        have hwx : IntKind.i64.wrap x = x := IntWalk.i64_in _ (by omega)
        have hwy : IntKind.i64.wrap y = y := IntWalk.i64_in _ (by omega)
        go_wp2
        (refine wp_region_held (S := fun w' => ((rowOf w' g)[o + k * 2]? = some (.int .i8 x)) ∧ ((rowOf w' g)[o + k * 2 + 1]? = some (.int .i8 y))) (by kernel_rfl) ?_); (simp only [World.drew_eq]); (refine wpAnyH_take (i := 0) rfl (by kernel_rfl) (by kernel_rfl) (by kernel_rfl) (fun _ _ _ h => h) (yieldsIf_move rfl rfl) ⟨by go_simp, by go_simp⟩ ?_); (try simp only [Act.put, Act.eval, List.getElem_toArray, List.getElem_cons_zero, List.getElem_cons_succ, List.setIfInBounds_toArray, List.set_cons_zero, List.set_cons_succ, Array.getD_eq_getD_getElem?, List.getElem?_toArray, List.getElem?_cons_zero, List.getElem?_cons_succ, Option.getD_some]); (refine wpAnyH_take (i := 1) rfl (by kernel_rfl) (by kernel_rfl) (by kernel_rfl) (fun _ _ _ h => h) (yieldsIf_move rfl rfl) ⟨by go_simp, by go_simp⟩ ?_); (try simp only [Act.put, Act.eval, List.getElem_toArray, List.getElem_cons_zero, List.getElem_cons_succ, List.setIfInBounds_toArray, List.set_cons_zero, List.set_cons_succ, Array.getD_eq_getD_getElem?, List.getElem?_toArray, List.getElem?_cons_zero, List.getElem?_cons_succ, Option.getD_some]); (refine wpAnyH_take (i := 2) (v := .pointer (some ⟨g, o + k * 2, none⟩)) rfl (by kernel_rfl) (by kernel_rfl) (by kernel_rfl) (fun _ _ _ h => h) (.inl ⟨by first | (simp [Region.wanted]; done) | rfl | simp [Region.wanted, yielded], fun w _ => by unfold execOp; go_simp⟩) ⟨by go_simp, by go_simp⟩ ?_); (try simp only [Act.put, Act.eval, List.getElem_toArray, List.getElem_cons_zero, List.getElem_cons_succ, List.setIfInBounds_toArray, List.set_cons_zero, List.set_cons_succ, Array.getD_eq_getD_getElem?, List.getElem?_toArray, List.getElem?_cons_zero, List.getElem?_cons_succ, Option.getD_some]); (refine wpAnyH_take (i := 3) (v := .pointer (some ⟨g, o + k * 2, none⟩)) rfl (by kernel_rfl) (by kernel_rfl) (by kernel_rfl) (fun _ _ _ h => h) (.inl ⟨by first | (simp [Region.wanted]; done) | rfl | simp [Region.wanted, yielded], fun w _ => by unfold execOp; go_simp⟩) ⟨by go_simp, by go_simp⟩ ?_); (try simp only [Act.put, Act.eval, List.getElem_toArray, List.getElem_cons_zero, List.getElem_cons_succ, List.setIfInBounds_toArray, List.set_cons_zero, List.set_cons_succ, Array.getD_eq_getD_getElem?, List.getElem?_toArray, List.getElem?_cons_zero, List.getElem?_cons_succ, Option.getD_some]); (refine wpAnyH_take (i := 4) rfl (by kernel_rfl) (by kernel_rfl) (by kernel_rfl) (fun _ _ _ h => h) (yieldsIf_load (v := .int .i8 x) rfl rfl rfl (fun w ⟨h0, h1⟩ => by go_simp)) ⟨by go_simp, by go_simp⟩ ?_); (try simp only [Act.put, Act.eval, List.getElem_toArray, List.getElem_cons_zero, List.getElem_cons_succ, List.setIfInBounds_toArray, List.set_cons_zero, List.set_cons_succ, Array.getD_eq_getD_getElem?, List.getElem?_toArray, List.getElem?_cons_zero, List.getElem?_cons_succ, Option.getD_some]); (refine wpAnyH_take (i := 5) (v := .int .i64 x) rfl (by kernel_rfl) (by kernel_rfl) (by kernel_rfl) (fun _ _ _ h => h) (.inl ⟨by first | (simp [Region.wanted]; done) | rfl | simp [Region.wanted, yielded], fun w _ => by unfold execOp; go_simp⟩) ⟨by go_simp, by go_simp⟩ ?_); (try simp only [Act.put, Act.eval, List.getElem_toArray, List.getElem_cons_zero, List.getElem_cons_succ, List.setIfInBounds_toArray, List.set_cons_zero, List.set_cons_succ, Array.getD_eq_getD_getElem?, List.getElem?_toArray, List.getElem?_cons_zero, List.getElem?_cons_succ, Option.getD_some]); (refine wpAnyH_one (i := 6) (by kernel_rfl) rfl rfl ?_); (go_simp); (first | (go_at_call 81; with_reducible refine (HX.out _).mono ?_; rintro e w1 ⟨rfl, hb1⟩; have r1 := keep_rowA hb1; have f1 := keep_frA hb1; have s1 := hb1.size; (try simp only [World.size_alloc, World.size_setCell, setRow_size, World.size_drew, size_drewNm] at r1 f1 s1)) | (go_at_call 81; with_reducible refine (HY.out _).mono ?_; rintro e w1 ⟨rfl, hb1⟩; have r1 := keep_rowA hb1; have f1 := keep_frA hb1; have s1 := hb1.size; (try simp only [World.size_alloc, World.size_setCell, setRow_size, World.size_drew, size_drewNm] at r1 f1 s1))); (refine ⟨⟨by go_simp, by go_simp⟩, ?_⟩); (try simp only [Act.put, Act.eval, List.getElem_toArray, List.getElem_cons_zero, List.getElem_cons_succ, List.setIfInBounds_toArray, List.set_cons_zero, List.set_cons_succ, Array.getD_eq_getD_getElem?, List.getElem?_toArray, List.getElem?_cons_zero, List.getElem?_cons_succ, Option.getD_some]); (refine wpAnyH_take (i := 7) (v := .bool false) rfl (by kernel_rfl) (by kernel_rfl) (by kernel_rfl) (fun _ _ _ h => h) (.inl ⟨by first | (simp [Region.wanted]; done) | rfl | simp [Region.wanted, yielded], fun w _ => by unfold execOp; go_simp⟩) ⟨by go_simp, by go_simp⟩ ?_); (try simp only [Act.put, Act.eval, List.getElem_toArray, List.getElem_cons_zero, List.getElem_cons_succ, List.setIfInBounds_toArray, List.set_cons_zero, List.set_cons_succ, Array.getD_eq_getD_getElem?, List.getElem?_toArray, List.getElem?_cons_zero, List.getElem?_cons_succ, Option.getD_some]); (refine wpAnyH_take (i := 8) rfl (by kernel_rfl) (by kernel_rfl) (by kernel_rfl) (fun _ _ _ h => h) (yieldsIf_move rfl rfl) ⟨by go_simp, by go_simp⟩ ?_); (try simp only [Act.put, Act.eval, List.getElem_toArray, List.getElem_cons_zero, List.getElem_cons_succ, List.setIfInBounds_toArray, List.set_cons_zero, List.set_cons_succ, Array.getD_eq_getD_getElem?, List.getElem?_toArray, List.getElem?_cons_zero, List.getElem?_cons_succ, Option.getD_some]); (refine wpAnyH_take (i := 9) (v := .slice (some ⟨g, o, none⟩) n cap) rfl (by kernel_rfl) (by kernel_rfl) (by kernel_rfl) (fun _ _ _ h => h) (.inl ⟨by first | (simp [Region.wanted]; done) | rfl | simp [Region.wanted, yielded], fun w _ => by unfold execOp; go_simp⟩) ⟨by go_simp, by go_simp⟩ ?_); (try simp only [Act.put, Act.eval, List.getElem_toArray, List.getElem_cons_zero, List.getElem_cons_succ, List.setIfInBounds_toArray, List.set_cons_zero, List.set_cons_succ, Array.getD_eq_getD_getElem?, List.getElem?_toArray, List.getElem?_cons_zero, List.getElem?_cons_succ, Option.getD_some]); (refine wpAnyH_take (i := 10) (v := .int .i64 k) rfl (by kernel_rfl) (by kernel_rfl) (by kernel_rfl) (fun _ _ _ h => h) (.inl ⟨by first | (simp [Region.wanted]; done) | rfl | simp [Region.wanted, yielded], fun w _ => by unfold execOp; go_simp⟩) ⟨by go_simp, by go_simp⟩ ?_); (try simp only [Act.put, Act.eval, List.getElem_toArray, List.getElem_cons_zero, List.getElem_cons_succ, List.setIfInBounds_toArray, List.set_cons_zero, List.set_cons_succ, Array.getD_eq_getD_getElem?, List.getElem?_toArray, List.getElem?_cons_zero, List.getElem?_cons_succ, Option.getD_some]); (refine wpAnyH_take (i := 11) (v := .pointer (some ⟨g, o + k * 2, none⟩)) rfl (by kernel_rfl) (by kernel_rfl) (by kernel_rfl) (fun _ _ _ h => h) (.inl ⟨by first | (simp [Region.wanted]; done) | rfl | simp [Region.wanted, yielded], fun w _ => by unfold execOp; go_simp⟩) ⟨by go_simp, by go_simp⟩ ?_); (try simp only [Act.put, Act.eval, List.getElem_toArray, List.getElem_cons_zero, List.getElem_cons_succ, List.setIfInBounds_toArray, List.set_cons_zero, List.set_cons_succ, Array.getD_eq_getD_getElem?, List.getElem?_toArray, List.getElem?_cons_zero, List.getElem?_cons_succ, Option.getD_some]); (refine wpAnyH_take (i := 12) (v := .pointer (some ⟨g, o + k * 2 + 1, none⟩)) rfl (by kernel_rfl) (by kernel_rfl) (by kernel_rfl) (fun _ _ _ h => h) (.inl ⟨by first | (simp [Region.wanted]; done) | rfl | simp [Region.wanted, yielded], fun w _ => by unfold execOp; go_simp⟩) ⟨by go_simp, by go_simp⟩ ?_); (try simp only [Act.put, Act.eval, List.getElem_toArray, List.getElem_cons_zero, List.getElem_cons_succ, List.setIfInBounds_toArray, List.set_cons_zero, List.set_cons_succ, Array.getD_eq_getD_getElem?, List.getElem?_toArray, List.getElem?_cons_zero, List.getElem?_cons_succ, Option.getD_some]); (refine wpAnyH_take (i := 13) (v := .int .i8 y) rfl (by kernel_rfl) (by kernel_rfl) (by kernel_rfl) (fun _ _ _ h => h) (.inl ⟨by first | (simp [Region.wanted]; done) | rfl | simp [Region.wanted, yielded], fun w ⟨h0, h1⟩ => by unfold execOp; go_simp⟩) ⟨by go_simp, by go_simp⟩ ?_); (try simp only [Act.put, Act.eval, List.getElem_toArray, List.getElem_cons_zero, List.getElem_cons_succ, List.setIfInBounds_toArray, List.set_cons_zero, List.set_cons_succ, Array.getD_eq_getD_getElem?, List.getElem?_toArray, List.getElem?_cons_zero, List.getElem?_cons_succ, Option.getD_some]); (refine wpAnyH_take (i := 14) (v := .int .i64 y) rfl (by kernel_rfl) (by kernel_rfl) (by kernel_rfl) (fun _ _ _ h => h) (.inl ⟨by first | (simp [Region.wanted]; done) | rfl | simp [Region.wanted, yielded], fun w _ => by unfold execOp; go_simp⟩) ⟨by go_simp, by go_simp⟩ ?_); (try simp only [Act.put, Act.eval, List.getElem_toArray, List.getElem_cons_zero, List.getElem_cons_succ, List.setIfInBounds_toArray, List.set_cons_zero, List.set_cons_succ, Array.getD_eq_getD_getElem?, List.getElem?_toArray, List.getElem?_cons_zero, List.getElem?_cons_succ, Option.getD_some]); (refine wpAnyH_one (i := 15) (by kernel_rfl) rfl rfl ?_); (go_simp); (first | (go_at_call 81; with_reducible refine (HX.out _).mono ?_; rintro e w1 ⟨rfl, hb1⟩; have r1 := keep_rowA hb1; have f1 := keep_frA hb1; have s1 := hb1.size; (try simp only [World.size_alloc, World.size_setCell, setRow_size, World.size_drew, size_drewNm] at r1 f1 s1)) | (go_at_call 81; with_reducible refine (HY.out _).mono ?_; rintro e w1 ⟨rfl, hb1⟩; have r1 := keep_rowA hb1; have f1 := keep_frA hb1; have s1 := hb1.size; (try simp only [World.size_alloc, World.size_setCell, setRow_size, World.size_drew, size_drewNm] at r1 f1 s1))); (refine ⟨⟨by go_simp, by go_simp⟩, ?_⟩); (try simp only [Act.put, Act.eval, List.getElem_toArray, List.getElem_cons_zero, List.getElem_cons_succ, List.setIfInBounds_toArray, List.set_cons_zero, List.set_cons_succ, Array.getD_eq_getD_getElem?, List.getElem?_toArray, List.getElem?_cons_zero, List.getElem?_cons_succ, Option.getD_some]); (refine wpAnyH_take (i := 16) (v := .bool true) rfl (by kernel_rfl) (by kernel_rfl) (by kernel_rfl) (fun _ _ _ h => h) (.inl ⟨by first | (simp [Region.wanted]; done) | rfl | simp [Region.wanted, yielded], fun w _ => by unfold execOp; go_simp⟩) ⟨by go_simp, by go_simp⟩ ?_); (try simp only [Act.put, Act.eval, List.getElem_toArray, List.getElem_cons_zero, List.getElem_cons_succ, List.setIfInBounds_toArray, List.set_cons_zero, List.set_cons_succ, Array.getD_eq_getD_getElem?, List.getElem?_toArray, List.getElem?_cons_zero, List.getElem?_cons_succ, Option.getD_some]); (refine wpAnyH_take (i := 17) (v := .bool true) rfl (by kernel_rfl) (by kernel_rfl) (by kernel_rfl) (fun _ _ _ h => h) (.inl ⟨by first | (simp [Region.wanted]; done) | rfl | simp [Region.wanted, yielded], fun w _ => by unfold execOp; go_simp⟩) ⟨by go_simp, by go_simp⟩ ?_); (try simp only [Act.put, Act.eval, List.getElem_toArray, List.getElem_cons_zero, List.getElem_cons_succ, List.setIfInBounds_toArray, List.set_cons_zero, List.set_cons_succ, Array.getD_eq_getD_getElem?, List.getElem?_toArray, List.getElem?_cons_zero, List.getElem?_cons_succ, Option.getD_some]); (refine wpAnyH_take (i := 18) rfl (by kernel_rfl) (by kernel_rfl) (by kernel_rfl) (fun _ _ _ h => h) (yieldsIf_move rfl rfl) ⟨by go_simp, by go_simp⟩ ?_); (try simp only [Act.put, Act.eval, List.getElem_toArray, List.getElem_cons_zero, List.getElem_cons_succ, List.setIfInBounds_toArray, List.set_cons_zero, List.set_cons_succ, Array.getD_eq_getD_getElem?, List.getElem?_toArray, List.getElem?_cons_zero, List.getElem?_cons_succ, Option.getD_some]); (refine wpAnyH_take (i := 19) (v := undef) rfl (by kernel_rfl) (by kernel_rfl) (by kernel_rfl) (fun _ _ _ h => h) (.inr ⟨by first | rfl | simp [Region.wanted, yielded], rfl⟩) ⟨by go_simp, by go_simp⟩ ?_); (try simp only [Act.put, Act.eval, List.getElem_toArray, List.getElem_cons_zero, List.getElem_cons_succ, List.setIfInBounds_toArray, List.set_cons_zero, List.set_cons_succ, Array.getD_eq_getD_getElem?, List.getElem?_toArray, List.getElem?_cons_zero, List.getElem?_cons_succ, Option.getD_some]); (refine wpAnyH_take (i := 20) (v := undef) rfl (by kernel_rfl) (by kernel_rfl) (by kernel_rfl) (fun _ _ _ h => h) (.inr ⟨by first | rfl | simp [Region.wanted, yielded], rfl⟩) ⟨by go_simp, by go_simp⟩ ?_); (try simp only [Act.put, Act.eval, List.getElem_toArray, List.getElem_cons_zero, List.getElem_cons_succ, List.setIfInBounds_toArray, List.set_cons_zero, List.set_cons_succ, Array.getD_eq_getD_getElem?, List.getElem?_toArray, List.getElem?_cons_zero, List.getElem?_cons_succ, Option.getD_some]); (refine wpAnyH_take (i := 21) (v := undef) rfl (by kernel_rfl) (by kernel_rfl) (by kernel_rfl) (fun _ _ _ h => h) (.inr ⟨by first | rfl | simp [Region.wanted, yielded], rfl⟩) ⟨by go_simp, by go_simp⟩ ?_); (try simp only [Act.put, Act.eval, List.getElem_toArray, List.getElem_cons_zero, List.getElem_cons_succ, List.setIfInBounds_toArray, List.set_cons_zero, List.set_cons_succ, Array.getD_eq_getD_getElem?, List.getElem?_toArray, List.getElem?_cons_zero, List.getElem?_cons_succ, Option.getD_some]); (refine wpAnyH_take (i := 22) (v := undef) rfl (by kernel_rfl) (by kernel_rfl) (by kernel_rfl) (fun _ _ _ h => h) (.inr ⟨by first | rfl | simp [Region.wanted, yielded], rfl⟩) ⟨by go_simp, by go_simp⟩ ?_); (try simp only [Act.put, Act.eval, List.getElem_toArray, List.getElem_cons_zero, List.getElem_cons_succ, List.setIfInBounds_toArray, List.set_cons_zero, List.set_cons_succ, Array.getD_eq_getD_getElem?, List.getElem?_toArray, List.getElem?_cons_zero, List.getElem?_cons_succ, Option.getD_some]); (refine wpAnyH_take (i := 23) (v := undef) rfl (by kernel_rfl) (by kernel_rfl) (by kernel_rfl) (fun _ _ _ h => h) (.inr ⟨by first | rfl | simp [Region.wanted, yielded], rfl⟩) ⟨by go_simp, by go_simp⟩ ?_); (try simp only [Act.put, Act.eval, List.getElem_toArray, List.getElem_cons_zero, List.getElem_cons_succ, List.setIfInBounds_toArray, List.set_cons_zero, List.set_cons_succ, Array.getD_eq_getD_getElem?, List.getElem?_toArray, List.getElem?_cons_zero, List.getElem?_cons_succ, Option.getD_some]); (refine wpAnyH_take (i := 24) (v := undef) rfl (by kernel_rfl) (by kernel_rfl) (by kernel_rfl) (fun _ _ _ h => h) (.inr ⟨by first | rfl | simp [Region.wanted, yielded], rfl⟩) ⟨by go_simp, by go_simp⟩ ?_); (try simp only [Act.put, Act.eval, List.getElem_toArray, List.getElem_cons_zero, List.getElem_cons_succ, List.setIfInBounds_toArray, List.set_cons_zero, List.set_cons_succ, Array.getD_eq_getD_getElem?, List.getElem?_toArray, List.getElem?_cons_zero, List.getElem?_cons_succ, Option.getD_some]); (refine wpAnyH_take (i := 25) (v := undef) rfl (by kernel_rfl) (by kernel_rfl) (by kernel_rfl) (fun _ _ _ h => h) (.inr ⟨by first | rfl | simp [Region.wanted, yielded], rfl⟩) ⟨by go_simp, by go_simp⟩ ?_); (try simp only [Act.put, Act.eval, List.getElem_toArray, List.getElem_cons_zero, List.getElem_cons_succ, List.setIfInBounds_toArray, List.set_cons_zero, List.set_cons_succ, Array.getD_eq_getD_getElem?, List.getElem?_toArray, List.getElem?_cons_zero, List.getElem?_cons_succ, Option.getD_some]); (refine wpAnyH_take (i := 26) (v := undef) rfl (by kernel_rfl) (by kernel_rfl) (by kernel_rfl) (fun _ _ _ h => h) (.inr ⟨by first | rfl | simp [Region.wanted, yielded], rfl⟩) ⟨by go_simp, by go_simp⟩ ?_); (try simp only [Act.put, Act.eval, List.getElem_toArray, List.getElem_cons_zero, List.getElem_cons_succ, List.setIfInBounds_toArray, List.set_cons_zero, List.set_cons_succ, Array.getD_eq_getD_getElem?, List.getElem?_toArray, List.getElem?_cons_zero, List.getElem?_cons_succ, Option.getD_some]); (refine wpAnyH_take (i := 27) (v := undef) rfl (by kernel_rfl) (by kernel_rfl) (by kernel_rfl) (fun _ _ _ h => h) (.inr ⟨by first | rfl | simp [Region.wanted, yielded], rfl⟩) ⟨by go_simp, by go_simp⟩ ?_); (try simp only [Act.put, Act.eval, List.getElem_toArray, List.getElem_cons_zero, List.getElem_cons_succ, List.setIfInBounds_toArray, List.set_cons_zero, List.set_cons_succ, Array.getD_eq_getD_getElem?, List.getElem?_toArray, List.getElem?_cons_zero, List.getElem?_cons_succ, Option.getD_some]); (refine wpAnyH_take (i := 28) (v := undef) rfl (by kernel_rfl) (by kernel_rfl) (by kernel_rfl) (fun _ _ _ h => h) (.inr ⟨by first | rfl | simp [Region.wanted, yielded], rfl⟩) ⟨by go_simp, by go_simp⟩ ?_); (try simp only [Act.put, Act.eval, List.getElem_toArray, List.getElem_cons_zero, List.getElem_cons_succ, List.setIfInBounds_toArray, List.set_cons_zero, List.set_cons_succ, Array.getD_eq_getD_getElem?, List.getElem?_toArray, List.getElem?_cons_zero, List.getElem?_cons_succ, Option.getD_some]); (refine wpAnyH_take (i := 29) (v := undef) rfl (by kernel_rfl) (by kernel_rfl) (by kernel_rfl) (fun _ _ _ h => h) (.inr ⟨by first | rfl | simp [Region.wanted, yielded], rfl⟩) ⟨by go_simp, by go_simp⟩ ?_); (try simp only [Act.put, Act.eval, List.getElem_toArray, List.getElem_cons_zero, List.getElem_cons_succ, List.setIfInBounds_toArray, List.set_cons_zero, List.set_cons_succ, Array.getD_eq_getD_getElem?, List.getElem?_toArray, List.getElem?_cons_zero, List.getElem?_cons_succ, Option.getD_some]); (refine wpAnyH_take (i := 30) (v := undef) rfl (by kernel_rfl) (by kernel_rfl) (by kernel_rfl) (fun _ _ _ h => h) (.inr ⟨by first | rfl | simp [Region.wanted, yielded], rfl⟩) ⟨by go_simp, by go_simp⟩ ?_); (try simp only [Act.put, Act.eval, List.getElem_toArray, List.getElem_cons_zero, List.getElem_cons_succ, List.setIfInBounds_toArray, List.set_cons_zero, List.set_cons_succ, Array.getD_eq_getD_getElem?, List.getElem?_toArray, List.getElem?_cons_zero, List.getElem?_cons_succ, Option.getD_some]); (refine wpAnyH_take (i := 31) (v := undef) rfl (by kernel_rfl) (by kernel_rfl) (by kernel_rfl) (fun _ _ _ h => h) (.inr ⟨by first | rfl | simp [Region.wanted, yielded], rfl⟩) ⟨by go_simp, by go_simp⟩ ?_); (try simp only [Act.put, Act.eval, List.getElem_toArray, List.getElem_cons_zero, List.getElem_cons_succ, List.setIfInBounds_toArray, List.set_cons_zero, List.set_cons_succ, Array.getD_eq_getD_getElem?, List.getElem?_toArray, List.getElem?_cons_zero, List.getElem?_cons_succ, Option.getD_some]); (refine wpAnyH_take (i := 32) (v := undef) rfl (by kernel_rfl) (by kernel_rfl) (by kernel_rfl) (fun _ _ _ h => h) (.inr ⟨by first | rfl | simp [Region.wanted, yielded], rfl⟩) ⟨by go_simp, by go_simp⟩ ?_); (try simp only [Act.put, Act.eval, List.getElem_toArray, List.getElem_cons_zero, List.getElem_cons_succ, List.setIfInBounds_toArray, List.set_cons_zero, List.set_cons_succ, Array.getD_eq_getD_getElem?, List.getElem?_toArray, List.getElem?_cons_zero, List.getElem?_cons_succ, Option.getD_some]); (refine wpAnyH_take (i := 33) (v := undef) rfl (by kernel_rfl) (by kernel_rfl) (by kernel_rfl) (fun _ _ _ h => h) (.inr ⟨by first | rfl | simp [Region.wanted, yielded], rfl⟩) ⟨by go_simp, by go_simp⟩ ?_); (try simp only [Act.put, Act.eval, List.getElem_toArray, List.getElem_cons_zero, List.getElem_cons_succ, List.setIfInBounds_toArray, List.set_cons_zero, List.set_cons_succ, Array.getD_eq_getD_getElem?, List.getElem?_toArray, List.getElem?_cons_zero, List.getElem?_cons_succ, Option.getD_some]); (refine wpAnyH_take (i := 34) (v := .bool true) rfl (by kernel_rfl) (by kernel_rfl) (by kernel_rfl) (fun _ _ _ h => h) (.inl ⟨by first | (simp [Region.wanted]; done) | rfl | simp [Region.wanted, yielded], fun w _ => by unfold execOp; go_simp⟩) ⟨by go_simp, by go_simp⟩ ?_); (try simp only [Act.put, Act.eval, List.getElem_toArray, List.getElem_cons_zero, List.getElem_cons_succ, List.setIfInBounds_toArray, List.set_cons_zero, List.set_cons_succ, Array.getD_eq_getD_getElem?, List.getElem?_toArray, List.getElem?_cons_zero, List.getElem?_cons_succ, Option.getD_some]); (refine wpAnyH_done (by kernel_rfl) ?_ _)
        go_wp2
        go_ret
        exact ⟨by rw [HE.out]; rfl, by repeat' (first | with_reducible exact Below.refl _ _ | with_reducible assumption | with_reducible refine Below.drew ?_ | with_reducible refine Below.drewN ?_ _ | with_reducible refine Below.alloc ?_ ?_ _ | with_reducible refine Below.setCell ?_ ?_ _ | with_reducible refine Below.setRow ?_ ?_ _ | with_reducible refine below_step (by assumption) ?_ ?_ | (show (_ : Nat) ≤ _; first | omega | (simp <;> omega)))⟩
      have HX := Lib.hid (fun w => h1 ▸ l00In_b (f (k * 2)) 0 7 w)
      have HY := Lib.hid (fun w => h2 ▸ l00In_b (f (k * 2 + 1)) 0 7 w)
      have HN := Lib.hid (cells8_next HIN.out ⟨inB_true.1 h1, inB_true.1 h2⟩)
      clear h1 h2
      have hwx : IntKind.i64.wrap (f (k * 2)) = f (k * 2) := IntWalk.i64_in _ (by omega)
      have hwy : IntKind.i64.wrap (f (k * 2 + 1)) = f (k * 2 + 1) := IntWalk.i64_in _ (by omega)
      by_cases hk0 : k = 0
      · subst hk0
        clear hcells hr1
        simp only [Nat.zero_mul, Nat.add_zero, Nat.zero_add] at e1 e2 HX HY hx hy hwx hwy
        have hz1 : ¬ n ≤ 0 := by omega
        generalize f 0 = x at *
        generalize f 1 = y at *
        go_wp2
        (refine wp_region_held (S := fun w' => ((rowOf w' g)[o]? = some (.int .i8 x)) ∧ ((rowOf w' g)[o + 1]? = some (.int .i8 y))) (by kernel_rfl) ?_); (simp only [World.drew_eq]); (refine wpAnyH_take (i := 0) rfl (by kernel_rfl) (by kernel_rfl) (by kernel_rfl) (fun _ _ _ h => h) (yieldsIf_move rfl rfl) ⟨by go_simp, by go_simp⟩ ?_); (try simp only [Act.put, Act.eval, List.getElem_toArray, List.getElem_cons_zero, List.getElem_cons_succ, List.setIfInBounds_toArray, List.set_cons_zero, List.set_cons_succ, Array.getD_eq_getD_getElem?, List.getElem?_toArray, List.getElem?_cons_zero, List.getElem?_cons_succ, Option.getD_some]); (refine wpAnyH_take (i := 1) rfl (by kernel_rfl) (by kernel_rfl) (by kernel_rfl) (fun _ _ _ h => h) (yieldsIf_move rfl rfl) ⟨by go_simp, by go_simp⟩ ?_); (try simp only [Act.put, Act.eval, List.getElem_toArray, List.getElem_cons_zero, List.getElem_cons_succ, List.setIfInBounds_toArray, List.set_cons_zero, List.set_cons_succ, Array.getD_eq_getD_getElem?, List.getElem?_toArray, List.getElem?_cons_zero, List.getElem?_cons_succ, Option.getD_some]); (refine wpAnyH_take (i := 2) (v := .pointer (some ⟨g, o, none⟩)) rfl (by kernel_rfl) (by kernel_rfl) (by kernel_rfl) (fun _ _ _ h => h) (.inl ⟨by first | (simp [Region.wanted]; done) | rfl | simp [Region.wanted, yielded], fun w _ => by unfold execOp; go_simp⟩) ⟨by go_simp, by go_simp⟩ ?_); (try simp only [Act.put, Act.eval, List.getElem_toArray, List.getElem_cons_zero, List.getElem_cons_succ, List.setIfInBounds_toArray, List.set_cons_zero, List.set_cons_succ, Array.getD_eq_getD_getElem?, List.getElem?_toArray, List.getElem?_cons_zero, List.getElem?_cons_succ, Option.getD_some]); (refine wpAnyH_take (i := 3) (v := .pointer (some ⟨g, o, none⟩)) rfl (by kernel_rfl) (by kernel_rfl) (by kernel_rfl) (fun _ _ _ h => h) (.inl ⟨by first | (simp [Region.wanted]; done) | rfl | simp [Region.wanted, yielded], fun w _ => by unfold execOp; go_simp⟩) ⟨by go_simp, by go_simp⟩ ?_); (try simp only [Act.put, Act.eval, List.getElem_toArray, List.getElem_cons_zero, List.getElem_cons_succ, List.setIfInBounds_toArray, List.set_cons_zero, List.set_cons_succ, Array.getD_eq_getD_getElem?, List.getElem?_toArray, List.getElem?_cons_zero, List.getElem?_cons_succ, Option.getD_some]); (refine wpAnyH_take (i := 4) rfl (by kernel_rfl) (by kernel_rfl) (by kernel_rfl) (fun _ _ _ h => h) (yieldsIf_load (v := .int .i8 x) rfl rfl rfl (fun w ⟨h0, h1⟩ => by go_simp)) ⟨by go_simp, by go_simp⟩ ?_); (try simp only [Act.put, Act.eval, List.getElem_toArray, List.getElem_cons_zero, List.getElem_cons_succ, List.setIfInBounds_toArray, List.set_cons_zero, List.set_cons_succ, Array.getD_eq_getD_getElem?, List.getElem?_toArray, List.getElem?_cons_zero, List.getElem?_cons_succ, Option.getD_some]); (refine wpAnyH_take (i := 5) (v := .int .i64 x) rfl (by kernel_rfl) (by kernel_rfl) (by kernel_rfl) (fun _ _ _ h => h) (.inl ⟨by first | (simp [Region.wanted]; done) | rfl | simp [Region.wanted, yielded], fun w _ => by unfold execOp; go_simp⟩) ⟨by go_simp, by go_simp⟩ ?_); (try simp only [Act.put, Act.eval, List.getElem_toArray, List.getElem_cons_zero, List.getElem_cons_succ, List.setIfInBounds_toArray, List.set_cons_zero, List.set_cons_succ, Array.getD_eq_getD_getElem?, List.getElem?_toArray, List.getElem?_cons_zero, List.getElem?_cons_succ, Option.getD_some]); (refine wpAnyH_one (i := 6) (by kernel_rfl) rfl rfl ?_); (go_simp); (first | (go_at_call 81; with_reducible refine (HX.out _).mono ?_; rintro e w1 ⟨rfl, hb1⟩; have r1 := keep_rowA hb1; have f1 := keep_frA hb1; have s1 := hb1.size; (try simp only [World.size_alloc, World.size_setCell, setRow_size, World.size_drew, size_drewNm] at r1 f1 s1)) | (go_at_call 81; with_reducible refine (HY.out _).mono ?_; rintro e w1 ⟨rfl, hb1⟩; have r1 := keep_rowA hb1; have f1 := keep_frA hb1; have s1 := hb1.size; (try simp only [World.size_alloc, World.size_setCell, setRow_size, World.size_drew, size_drewNm] at r1 f1 s1))); (refine ⟨⟨by go_simp, by go_simp⟩, ?_⟩); (try simp only [Act.put, Act.eval, List.getElem_toArray, List.getElem_cons_zero, List.getElem_cons_succ, List.setIfInBounds_toArray, List.set_cons_zero, List.set_cons_succ, Array.getD_eq_getD_getElem?, List.getElem?_toArray, List.getElem?_cons_zero, List.getElem?_cons_succ, Option.getD_some]); (refine wpAnyH_take (i := 7) (v := .bool false) rfl (by kernel_rfl) (by kernel_rfl) (by kernel_rfl) (fun _ _ _ h => h) (.inl ⟨by first | (simp [Region.wanted]; done) | rfl | simp [Region.wanted, yielded], fun w _ => by unfold execOp; go_simp⟩) ⟨by go_simp, by go_simp⟩ ?_); (try simp only [Act.put, Act.eval, List.getElem_toArray, List.getElem_cons_zero, List.getElem_cons_succ, List.setIfInBounds_toArray, List.set_cons_zero, List.set_cons_succ, Array.getD_eq_getD_getElem?, List.getElem?_toArray, List.getElem?_cons_zero, List.getElem?_cons_succ, Option.getD_some]); (refine wpAnyH_take (i := 8) rfl (by kernel_rfl) (by kernel_rfl) (by kernel_rfl) (fun _ _ _ h => h) (yieldsIf_move rfl rfl) ⟨by go_simp, by go_simp⟩ ?_); (try simp only [Act.put, Act.eval, List.getElem_toArray, List.getElem_cons_zero, List.getElem_cons_succ, List.setIfInBounds_toArray, List.set_cons_zero, List.set_cons_succ, Array.getD_eq_getD_getElem?, List.getElem?_toArray, List.getElem?_cons_zero, List.getElem?_cons_succ, Option.getD_some]); (refine wpAnyH_take (i := 9) (v := .slice (some ⟨g, o, none⟩) n cap) rfl (by kernel_rfl) (by kernel_rfl) (by kernel_rfl) (fun _ _ _ h => h) (.inl ⟨by first | (simp [Region.wanted]; done) | rfl | simp [Region.wanted, yielded], fun w _ => by unfold execOp; go_simp⟩) ⟨by go_simp, by go_simp⟩ ?_); (try simp only [Act.put, Act.eval, List.getElem_toArray, List.getElem_cons_zero, List.getElem_cons_succ, List.setIfInBounds_toArray, List.set_cons_zero, List.set_cons_succ, Array.getD_eq_getD_getElem?, List.getElem?_toArray, List.getElem?_cons_zero, List.getElem?_cons_succ, Option.getD_some]); (refine wpAnyH_take (i := 10) (v := .int .i64 0) rfl (by kernel_rfl) (by kernel_rfl) (by kernel_rfl) (fun _ _ _ h => h) (.inl ⟨by first | (simp [Region.wanted]; done) | rfl | simp [Region.wanted, yielded], fun w _ => by unfold execOp; go_simp⟩) ⟨by go_simp, by go_simp⟩ ?_); (try simp only [Act.put, Act.eval, List.getElem_toArray, List.getElem_cons_zero, List.getElem_cons_succ, List.setIfInBounds_toArray, List.set_cons_zero, List.set_cons_succ, Array.getD_eq_getD_getElem?, List.getElem?_toArray, List.getElem?_cons_zero, List.getElem?_cons_succ, Option.getD_some]); (refine wpAnyH_take (i := 11) (v := .pointer (some ⟨g, o, none⟩)) rfl (by kernel_rfl) (by kernel_rfl) (by kernel_rfl) (fun _ _ _ h => h) (.inl ⟨by first | (simp [Region.wanted]; done) | rfl | simp [Region.wanted, yielded], fun w _ => by unfold execOp; go_simp⟩) ⟨by go_simp, by go_simp⟩ ?_); (try simp only [Act.put, Act.eval, List.getElem_toArray, List.getElem_cons_zero, List.getElem_cons_succ, List.setIfInBounds_toArray, List.set_cons_zero, List.set_cons_succ, Array.getD_eq_getD_getElem?, List.getElem?_toArray, List.getElem?_cons_zero, List.getElem?_cons_succ, Option.getD_some]); (refine wpAnyH_take (i := 12) (v := .pointer (some ⟨g, o + 1, none⟩)) rfl (by kernel_rfl) (by kernel_rfl) (by kernel_rfl) (fun _ _ _ h => h) (.inl ⟨by first | (simp [Region.wanted]; done) | rfl | simp [Region.wanted, yielded], fun w _ => by unfold execOp; go_simp⟩) ⟨by go_simp, by go_simp⟩ ?_); (try simp only [Act.put, Act.eval, List.getElem_toArray, List.getElem_cons_zero, List.getElem_cons_succ, List.setIfInBounds_toArray, List.set_cons_zero, List.set_cons_succ, Array.getD_eq_getD_getElem?, List.getElem?_toArray, List.getElem?_cons_zero, List.getElem?_cons_succ, Option.getD_some]); (refine wpAnyH_take (i := 13) (v := .int .i8 y) rfl (by kernel_rfl) (by kernel_rfl) (by kernel_rfl) (fun _ _ _ h => h) (.inl ⟨by first | (simp [Region.wanted]; done) | rfl | simp [Region.wanted, yielded], fun w ⟨h0, h1⟩ => by unfold execOp; go_simp⟩) ⟨by go_simp, by go_simp⟩ ?_); (try simp only [Act.put, Act.eval, List.getElem_toArray, List.getElem_cons_zero, List.getElem_cons_succ, List.setIfInBounds_toArray, List.set_cons_zero, List.set_cons_succ, Array.getD_eq_getD_getElem?, List.getElem?_toArray, List.getElem?_cons_zero, List.getElem?_cons_succ, Option.getD_some]); (refine wpAnyH_take (i := 14) (v := .int .i64 y) rfl (by kernel_rfl) (by kernel_rfl) (by kernel_rfl) (fun _ _ _ h => h) (.inl ⟨by first | (simp [Region.wanted]; done) | rfl | simp [Region.wanted, yielded], fun w _ => by unfold execOp; go_simp⟩) ⟨by go_simp, by go_simp⟩ ?_); (try simp only [Act.put, Act.eval, List.getElem_toArray, List.getElem_cons_zero, List.getElem_cons_succ, List.setIfInBounds_toArray, List.set_cons_zero, List.set_cons_succ, Array.getD_eq_getD_getElem?, List.getElem?_toArray, List.getElem?_cons_zero, List.getElem?_cons_succ, Option.getD_some]); (refine wpAnyH_one (i := 15) (by kernel_rfl) rfl rfl ?_); (go_simp); (first | (go_at_call 81; with_reducible refine (HX.out _).mono ?_; rintro e w1 ⟨rfl, hb1⟩; have r1 := keep_rowA hb1; have f1 := keep_frA hb1; have s1 := hb1.size; (try simp only [World.size_alloc, World.size_setCell, setRow_size, World.size_drew, size_drewNm] at r1 f1 s1)) | (go_at_call 81; with_reducible refine (HY.out _).mono ?_; rintro e w1 ⟨rfl, hb1⟩; have r1 := keep_rowA hb1; have f1 := keep_frA hb1; have s1 := hb1.size; (try simp only [World.size_alloc, World.size_setCell, setRow_size, World.size_drew, size_drewNm] at r1 f1 s1))); (refine ⟨⟨by go_simp, by go_simp⟩, ?_⟩); (try simp only [Act.put, Act.eval, List.getElem_toArray, List.getElem_cons_zero, List.getElem_cons_succ, List.setIfInBounds_toArray, List.set_cons_zero, List.set_cons_succ, Array.getD_eq_getD_getElem?, List.getElem?_toArray, List.getElem?_cons_zero, List.getElem?_cons_succ, Option.getD_some]); (refine wpAnyH_take (i := 16) (v := .bool false) rfl (by kernel_rfl) (by kernel_rfl) (by kernel_rfl) (fun _ _ _ h => h) (.inl ⟨by first | (simp [Region.wanted]; done) | rfl | simp [Region.wanted, yielded], fun w _ => by unfold execOp; go_simp⟩) ⟨by go_simp, by go_simp⟩ ?_); (try simp only [Act.put, Act.eval, List.getElem_toArray, List.getElem_cons_zero, List.getElem_cons_succ, List.setIfInBounds_toArray, List.set_cons_zero, List.set_cons_succ, Array.getD_eq_getD_getElem?, List.getElem?_toArray, List.getElem?_cons_zero, List.getElem?_cons_succ, Option.getD_some]); (refine wpAnyH_take (i := 17) (v := .bool false) rfl (by kernel_rfl) (by kernel_rfl) (by kernel_rfl) (fun _ _ _ h => h) (.inl ⟨by first | (simp [Region.wanted]; done) | rfl | simp [Region.wanted, yielded], fun w _ => by unfold execOp; go_simp⟩) ⟨by go_simp, by go_simp⟩ ?_); (try simp only [Act.put, Act.eval, List.getElem_toArray, List.getElem_cons_zero, List.getElem_cons_succ, List.setIfInBounds_toArray, List.set_cons_zero, List.set_cons_succ, Array.getD_eq_getD_getElem?, List.getElem?_toArray, List.getElem?_cons_zero, List.getElem?_cons_succ, Option.getD_some]); (refine wpAnyH_take (i := 18) rfl (by kernel_rfl) (by kernel_rfl) (by kernel_rfl) (fun _ _ _ h => h) (yieldsIf_move rfl rfl) ⟨by go_simp, by go_simp⟩ ?_); (try simp only [Act.put, Act.eval, List.getElem_toArray, List.getElem_cons_zero, List.getElem_cons_succ, List.setIfInBounds_toArray, List.set_cons_zero, List.set_cons_succ, Array.getD_eq_getD_getElem?, List.getElem?_toArray, List.getElem?_cons_zero, List.getElem?_cons_succ, Option.getD_some]); (refine wpAnyH_take (i := 19) (v := .int .i64 0) rfl (by kernel_rfl) (by kernel_rfl) (by kernel_rfl) (fun _ _ _ h => h) (.inl ⟨by first | (simp [Region.wanted]; done) | rfl | simp [Region.wanted, yielded], fun w _ => by unfold execOp; go_simp⟩) ⟨by go_simp, by go_simp⟩ ?_); (try simp only [Act.put, Act.eval, List.getElem_toArray, List.getElem_cons_zero, List.getElem_cons_succ, List.setIfInBounds_toArray, List.set_cons_zero, List.set_cons_succ, Array.getD_eq_getD_getElem?, List.getElem?_toArray, List.getElem?_cons_zero, List.getElem?_cons_succ, Option.getD_some]); (refine wpAnyH_take (i := 20) (v := .bool false) rfl (by kernel_rfl) (by kernel_rfl) (by kernel_rfl) (fun _ _ _ h => h) (.inl ⟨by first | (simp [Region.wanted]; done) | rfl | simp [Region.wanted, yielded], fun w _ => by unfold execOp; go_simp⟩) ⟨by go_simp, by go_simp⟩ ?_); (try simp only [Act.put, Act.eval, List.getElem_toArray, List.getElem_cons_zero, List.getElem_cons_succ, List.setIfInBounds_toArray, List.set_cons_zero, List.set_cons_succ, Array.getD_eq_getD_getElem?, List.getElem?_toArray, List.getElem?_cons_zero, List.getElem?_cons_succ, Option.getD_some]); (refine wpAnyH_take (i := 21) (v := .bool false) rfl (by kernel_rfl) (by kernel_rfl) (by kernel_rfl) (fun _ _ _ h => h) (.inl ⟨by first | (simp [Region.wanted]; done) | rfl | simp [Region.wanted, yielded], fun w _ => by unfold execOp; go_simp⟩) ⟨by go_simp, by go_simp⟩ ?_); (try simp only [Act.put, Act.eval, List.getElem_toArray, List.getElem_cons_zero, List.getElem_cons_succ, List.setIfInBounds_toArray, List.set_cons_zero, List.set_cons_succ, Array.getD_eq_getD_getElem?, List.getElem?_toArray, List.getElem?_cons_zero, List.getElem?_cons_succ, Option.getD_some]); (refine wpAnyH_take (i := 22) (v := undef) rfl (by kernel_rfl) (by kernel_rfl) (by kernel_rfl) (fun _ _ _ h => h) (.inr ⟨by first | rfl | simp [Region.wanted, yielded], rfl⟩) ⟨by go_simp, by go_simp⟩ ?_); (try simp only [Act.put, Act.eval, List.getElem_toArray, List.getElem_cons_zero, List.getElem_cons_succ, List.setIfInBounds_toArray, List.set_cons_zero, List.set_cons_succ, Array.getD_eq_getD_getElem?, List.getElem?_toArray, List.getElem?_cons_zero, List.getElem?_cons_succ, Option.getD_some]); (refine wpAnyH_take (i := 23) (v := undef) rfl (by kernel_rfl) (by kernel_rfl) (by kernel_rfl) (fun _ _ _ h => h) (.inr ⟨by first | rfl | simp [Region.wanted, yielded], rfl⟩) ⟨by go_simp, by go_simp⟩ ?_); (try simp only [Act.put, Act.eval, List.getElem_toArray, List.getElem_cons_zero, List.getElem_cons_succ, List.setIfInBounds_toArray, List.set_cons_zero, List.set_cons_succ, Array.getD_eq_getD_getElem?, List.getElem?_toArray, List.getElem?_cons_zero, List.getElem?_cons_succ, Option.getD_some]); (refine wpAnyH_take (i := 24) (v := undef) rfl (by kernel_rfl) (by kernel_rfl) (by kernel_rfl) (fun _ _ _ h => h) (.inr ⟨by first | rfl | simp [Region.wanted, yielded], rfl⟩) ⟨by go_simp, by go_simp⟩ ?_); (try simp only [Act.put, Act.eval, List.getElem_toArray, List.getElem_cons_zero, List.getElem_cons_succ, List.setIfInBounds_toArray, List.set_cons_zero, List.set_cons_succ, Array.getD_eq_getD_getElem?, List.getElem?_toArray, List.getElem?_cons_zero, List.getElem?_cons_succ, Option.getD_some]); (refine wpAnyH_take (i := 25) (v := undef) rfl (by kernel_rfl) (by kernel_rfl) (by kernel_rfl) (fun _ _ _ h => h) (.inr ⟨by first | rfl | simp [Region.wanted, yielded], rfl⟩) ⟨by go_simp, by go_simp⟩ ?_); (try simp only [Act.put, Act.eval, List.getElem_toArray, List.getElem_cons_zero, List.getElem_cons_succ, List.setIfInBounds_toArray, List.set_cons_zero, List.set_cons_succ, Array.getD_eq_getD_getElem?, List.getElem?_toArray, List.getElem?_cons_zero, List.getElem?_cons_succ, Option.getD_some]); (refine wpAnyH_take (i := 26) (v := undef) rfl (by kernel_rfl) (by kernel_rfl) (by kernel_rfl) (fun _ _ _ h => h) (.inr ⟨by first | rfl | simp [Region.wanted, yielded], rfl⟩) ⟨by go_simp, by go_simp⟩ ?_); (try simp only [Act.put, Act.eval, List.getElem_toArray, List.getElem_cons_zero, List.getElem_cons_succ, List.setIfInBounds_toArray, List.set_cons_zero, List.set_cons_succ, Array.getD_eq_getD_getElem?, List.getElem?_toArray, List.getElem?_cons_zero, List.getElem?_cons_succ, Option.getD_some]); (refine wpAnyH_take (i := 27) (v := undef) rfl (by kernel_rfl) (by kernel_rfl) (by kernel_rfl) (fun _ _ _ h => h) (.inr ⟨by first | rfl | simp [Region.wanted, yielded], rfl⟩) ⟨by go_simp, by go_simp⟩ ?_); (try simp only [Act.put, Act.eval, List.getElem_toArray, List.getElem_cons_zero, List.getElem_cons_succ, List.setIfInBounds_toArray, List.set_cons_zero, List.set_cons_succ, Array.getD_eq_getD_getElem?, List.getElem?_toArray, List.getElem?_cons_zero, List.getElem?_cons_succ, Option.getD_some]); (refine wpAnyH_take (i := 28) (v := undef) rfl (by kernel_rfl) (by kernel_rfl) (by kernel_rfl) (fun _ _ _ h => h) (.inr ⟨by first | rfl | simp [Region.wanted, yielded], rfl⟩) ⟨by go_simp, by go_simp⟩ ?_); (try simp only [Act.put, Act.eval, List.getElem_toArray, List.getElem_cons_zero, List.getElem_cons_succ, List.setIfInBounds_toArray, List.set_cons_zero, List.set_cons_succ, Array.getD_eq_getD_getElem?, List.getElem?_toArray, List.getElem?_cons_zero, List.getElem?_cons_succ, Option.getD_some]); (refine wpAnyH_take (i := 29) (v := undef) rfl (by kernel_rfl) (by kernel_rfl) (by kernel_rfl) (fun _ _ _ h => h) (.inr ⟨by first | rfl | simp [Region.wanted, yielded], rfl⟩) ⟨by go_simp, by go_simp⟩ ?_); (try simp only [Act.put, Act.eval, List.getElem_toArray, List.getElem_cons_zero, List.getElem_cons_succ, List.setIfInBounds_toArray, List.set_cons_zero, List.set_cons_succ, Array.getD_eq_getD_getElem?, List.getElem?_toArray, List.getElem?_cons_zero, List.getElem?_cons_succ, Option.getD_some]); (refine wpAnyH_take (i := 30) (v := undef) rfl (by kernel_rfl) (by kernel_rfl) (by kernel_rfl) (fun _ _ _ h => h) (.inr ⟨by first | rfl | simp [Region.wanted, yielded], rfl⟩) ⟨by go_simp, by go_simp⟩ ?_); (try simp only [Act.put, Act.eval, List.getElem_toArray, List.getElem_cons_zero, List.getElem_cons_succ, List.setIfInBounds_toArray, List.set_cons_zero, List.set_cons_succ, Array.getD_eq_getD_getElem?, List.getElem?_toArray, List.getElem?_cons_zero, List.getElem?_cons_succ, Option.getD_some]); (refine wpAnyH_take (i := 31) (v := undef) rfl (by kernel_rfl) (by kernel_rfl) (by kernel_rfl) (fun _ _ _ h => h) (.inr ⟨by first | rfl | simp [Region.wanted, yielded], rfl⟩) ⟨by go_simp, by go_simp⟩ ?_); (try simp only [Act.put, Act.eval, List.getElem_toArray, List.getElem_cons_zero, List.getElem_cons_succ, List.setIfInBounds_toArray, List.set_cons_zero, List.set_cons_succ, Array.getD_eq_getD_getElem?, List.getElem?_toArray, List.getElem?_cons_zero, List.getElem?_cons_succ, Option.getD_some]); (refine wpAnyH_take (i := 32) (v := undef) rfl (by kernel_rfl) (by kernel_rfl) (by kernel_rfl) (fun _ _ _ h => h) (.inr ⟨by first | rfl | simp [Region.wanted, yielded], rfl⟩) ⟨by go_simp, by go_simp⟩ ?_); (try simp only [Act.put, Act.eval, List.getElem_toArray, List.getElem_cons_zero, List.getElem_cons_succ, List.setIfInBounds_toArray, List.set_cons_zero, List.set_cons_succ, Array.getD_eq_getD_getElem?, List.getElem?_toArray, List.getElem?_cons_zero, List.getElem?_cons_succ, Option.getD_some]); (refine wpAnyH_take (i := 33) (v := .bool false) rfl (by kernel_rfl) (by kernel_rfl) (by kernel_rfl) (fun _ _ _ h => h) (.inl ⟨by first | (simp [Region.wanted]; done) | rfl | simp [Region.wanted, yielded], fun w _ => by unfold execOp; go_simp⟩) ⟨by go_simp, by go_simp⟩ ?_); (try simp only [Act.put, Act.eval, List.getElem_toArray, List.getElem_cons_zero, List.getElem_cons_succ, List.setIfInBounds_toArray, List.set_cons_zero, List.set_cons_succ, Array.getD_eq_getD_getElem?, List.getElem?_toArray, List.getElem?_cons_zero, List.getElem?_cons_succ, Option.getD_some]); (refine wpAnyH_take (i := 34) (v := .bool false) rfl (by kernel_rfl) (by kernel_rfl) (by kernel_rfl) (fun _ _ _ h => h) (.inl ⟨by first | (simp [Region.wanted]; done) | rfl | simp [Region.wanted, yielded], fun w _ => by unfold execOp; go_simp⟩) ⟨by go_simp, by go_simp⟩ ?_); (try simp only [Act.put, Act.eval, List.getElem_toArray, List.getElem_cons_zero, List.getElem_cons_succ, List.setIfInBounds_toArray, List.set_cons_zero, List.set_cons_succ, Array.getD_eq_getD_getElem?, List.getElem?_toArray, List.getElem?_cons_zero, List.getElem?_cons_succ, Option.getD_some]); (refine wpAnyH_done (by kernel_rfl) ?_ _)
        go_wp2
        go_roundw
        case rel => first | exact ⟨1, by omega, by go_num, by repeat' (first | with_reducible exact Below.refl _ _ | with_reducible assumption | with_reducible refine Below.drew ?_ | with_reducible refine Below.drewN ?_ _ | with_reducible refine Below.alloc ?_ ?_ _ | with_reducible refine Below.setCell ?_ ?_ _ | with_reducible refine Below.setRow ?_ ?_ _ | with_reducible refine below_step (by assumption) ?_ ?_ | (show (_ : Nat) ≤ _; first | omega | (simp <;> omega))), HN.out, fun i h0 h1 => by omega⟩ | ((repeat (with_reducible apply Exists.intro)); refine And.intro ?_ ?_; rotate_left; (focus ((repeat' (with_reducible apply And.intro)) <;> rfl)); exact ⟨1, by omega, by go_num, by repeat' (first | with_reducible exact Below.refl _ _ | with_reducible assumption | with_reducible refine Below.drew ?_ | with_reducible refine Below.drewN ?_ _ | with_reducible refine Below.alloc ?_ ?_ _ | with_reducible refine Below.setCell ?_ ?_ _ | with_reducible refine Below.setRow ?_ ?_ _ | with_reducible refine below_step (by assumption) ?_ ?_ | (show (_ : Nat) ≤ _; first | omega | (simp <;> omega))), HN.out, fun i h0 h1 => by omega⟩)
        case measure => simp [intOf] <;> omega
      · obtain ⟨m, hm⟩ : ∃ m : Nat, k = m + 1 := ⟨k - 1, by omega⟩
        subst hm
        have e3 := hcells (m * 2) (by omega)
        have e4 := hcells (m * 2 + 1) (by omega)
        rw [← hr1] at e3 e4
        rw [← Nat.add_assoc] at e4
        have hx' := HF.out (m * 2) (by omega)
        have hy' := HF.out (m * 2 + 1) (by omega)
        clear hcells hr1
        have hsa : stepAt f (m + 1) = stepB (f (m * 2)) (f (m * 2 + 1)) (f ((m + 1) * 2)) (f ((m + 1) * 2 + 1)) := by unfold stepAt; rw [Nat.add_sub_cancel]
        have hSS := fun w => l04Step_any (f (m * 2)) (f (m * 2 + 1)) (f ((m + 1) * 2)) (f ((m + 1) * 2 + 1)) hx' hy' w
        rw [← hsa] at hSS
        have hms : ((m + 1 : Nat) : Int) - 1 = (m : Int) := by omega
        have hwm : IntKind.i64.wrap (m : Int) = (m : Int) := IntWalk.i64_in _ (by omega)
        have hm1 : ¬ n ≤ m := by omega
        have hm2 : ¬ ((m : Int) + 1 < 0) := by omega
        have hm3 : ¬ n ≤ m + 1 := by omega
        have hm4 : ¬ n < m + 1 := by omega
        have hm5 : decide ((0 : Int) < (m : Int) + 1) = true := decide_eq_true (by omega)
        have hm6 : (0 : Int) ≤ (m : Int) := by omega
        have hm7 : (m : Int) < (n : Int) := by omega
        have hm8 : (0 : Int) ≤ (m : Int) + 1 := by omega
        have hm9 : (m : Int) + 1 < (n : Int) := by omega
        rcases Bool.eq_false_or_eq_true (stepAt f (m + 1)) with hs | hs
        · rw [hs] at hSS
          have HSS := Lib.hid hSS
          have HN2 := Lib.hid (steps_next HST.out (fun _ => hs))
          clear hSS hs hsa
          generalize f (m * 2) = x1 at *
          generalize f (m * 2 + 1) = y1 at *
          generalize f ((m + 1) * 2) = x2 at *
          generalize f ((m + 1) * 2 + 1) = y2 at *
          go_wp2
          go_region_held3 (fun w' => (rowOf w' g)[o + m * 2]? = some (.int .i8 x1) ∧ (rowOf w' g)[o + m * 2 + 1]? = some (.int .i8 y1) ∧ (rowOf w' g)[o + (m + 1) * 2]? = some (.int .i8 x2) ∧ (rowOf w' g)[o + (m + 1) * 2 + 1]? = some (.int .i8 y2)) (go_simp) (first | (go_at_call 81; with_reducible refine (HX.out _).mono ?_; rintro e w1 ⟨rfl, hb1⟩; have r1 := keep_rowA hb1; have f1 := keep_frA hb1; have s1 := hb1.size; (try simp only [World.size_alloc, World.size_setCell, setRow_size, World.size_drew, size_drewNm] at r1 f1 s1)) | (go_at_call 81; with_reducible refine (HY.out _).mono ?_; rintro e w1 ⟨rfl, hb1⟩; have r1 := keep_rowA hb1; have f1 := keep_frA hb1; have s1 := hb1.size; (try simp only [World.size_alloc, World.size_setCell, setRow_size, World.size_drew, size_drewNm] at r1 f1 s1)) | (go_at_call 92; refine (HSS.out _).mono ?_; rintro e w1 ⟨rfl, hb1⟩; have r1 := keep_rowA hb1; have f1 := keep_frA hb1; have s1 := hb1.size; (try simp only [World.size_alloc, World.size_setCell, setRow_size, World.size_drew, size_drewNm] at r1 f1 s1)))
          all_goals
            go_wp2
            go_roundw
            case rel => first | exact ⟨m + 2, by omega, by go_num, by repeat' (first | with_reducible exact Below.refl _ _ | with_reducible assumption | with_reducible refine Below.drew ?_ | with_reducible refine Below.drewN ?_ _ | with_reducible refine Below.alloc ?_ ?_ _ | with_reducible refine Below.setCell ?_ ?_ _ | with_reducible refine Below.setRow ?_ ?_ _ | with_reducible refine below_step (by assumption) ?_ ?_ | (show (_ : Nat) ≤ _; first | omega | (simp <;> omega))), HN.out, HN2.out⟩ | ((repeat (with_reducible apply Exists.intro)); refine And.intro ?_ ?_; rotate_left; (focus ((repeat' (with_reducible apply And.intro)) <;> rfl)); exact ⟨m + 2, by omega, by go_num, by repeat' (first | with_reducible exact Below.refl _ _ | with_reducible assumption | with_reducible refine Below.drew ?_ | with_reducible refine Below.drewN ?_ _ | with_reducible refine Below.alloc ?_ ?_ _ | with_reducible refine Below.setCell ?_ ?_ _ | with_reducible refine Below.setRow ?_ ?_ _ | with_reducible refine below_step (by assumption) ?_ ?_ | (show (_ : Nat) ≤ _; first | omega | (simp <;> omega))), HN.out, HN2.out⟩)
            case measure => simp [intOf] <;> omega
        · rw [hs] at hSS
          have HSS := Lib.hid hSS
          have HN2 := Lib.hid (told_noS (by omega) hlt hs)
          clear hSS hs hsa
          generalize f (m * 2) = x1 at *
          generalize f (m * 2 + 1) = y1 at *
          generalize f ((m + 1) * 2) = x2 at *
          generalize f ((m + 1) * 2 + 1) = y2 at *
          go_wp2
          go_region_held3 (fun w' => (rowOf w' g)[o + m * 2]? = some (.int .i8 x1) ∧ (rowOf w' g)[o + m * 2 + 1]? = some (.int .i8 y1) ∧ (rowOf w' g)[o + (m + 1) * 2]? = some (.int .i8 x2) ∧ (rowOf w' g)[o + (m + 1) * 2 + 1]? = some (.int .i8 y2)) (go_simp) (first | (go_at_call 81; with_reducible refine (HX.out _).mono ?_; rintro e w1 ⟨rfl, hb1⟩; have r1 := keep_rowA hb1; have f1 := keep_frA hb1; have s1 := hb1.size; (try simp only [World.size_alloc, World.size_setCell, setRow_size, World.size_drew, size_drewNm] at r1 f1 s1)) | (go_at_call 81; with_reducible refine (HY.out _).mono ?_; rintro e w1 ⟨rfl, hb1⟩; have r1 := keep_rowA hb1; have f1 := keep_frA hb1; have s1 := hb1.size; (try simp only [World.size_alloc, World.size_setCell, setRow_size, World.size_drew, size_drewNm] at r1 f1 s1)) | (go_at_call 92; refine (HSS.out _).mono ?_; rintro e w1 ⟨rfl, hb1⟩; have r1 := keep_rowA hb1; have f1 := keep_frA hb1; have s1 := hb1.size; (try simp only [World.size_alloc, World.size_setCell, setRow_size, World.size_drew, size_drewNm] at r1 f1 s1)))
          all_goals
            go_wp2
            go_ret
            exact ⟨by rw [HN2.out]; rfl, by repeat' (first | with_reducible exact Below.refl _ _ | with_reducible assumption | with_reducible refine Below.drew ?_ | with_reducible refine Below.drewN ?_ _ | with_reducible refine Below.alloc ?_ ?_ _ | with_reducible refine Below.setCell ?_ ?_ _ | with_reducible refine Below.setRow ?_ ?_ _ | with_reducible refine below_step (by assumption) ?_ ?_ | (show (_ : Nat) ≤ _; first | omega | (simp <;> omega)))⟩
    · have hke : k = n := by omega
      subst hke
      have HV := Lib.hid (told_yes HIN.out HST.out)
      go_wp2_with ((go_at_call 81; refine (l00In_any _ _ _ _).mono ?_; rintro e w1 ⟨rfl, rfl⟩))
      go_ret
      exact ⟨by rw [HV.out]; rfl, by repeat' (first | with_reducible exact Below.refl _ _ | with_reducible assumption | with_reducible refine Below.drew ?_ | with_reducible refine Below.drewN ?_ _ | with_reducible refine Below.alloc ?_ ?_ _ | with_reducible refine Below.setCell ?_ ?_ _ | with_reducible refine Below.setRow ?_ ?_ _ | with_reducible refine below_step (by assumption) ?_ ?_ | (show (_ : Nat) ≤ _; first | omega | (simp <;> omega)))⟩
end Go.Proofs.YtbnhhjjhjjmmjaaDoor
/- The text of a path: the reference, the steps. Written by gen_ptexts.py. -/
namespace Go.Proofs.YtbnhhjjhjjmmjaaDoor
open Go.RowKit
set_option linter.unusedVariables false
set_option linter.unusedSimpArgs false
set_option maxRecDepth 100000
@[go_sem] theorem nesw_0 (h : 0 < (ByteArray.mk #[110, 101, 115, 119]).size) : (ByteArray.mk #[110, 101, 115, 119])[0]'h = 110 := rfl
@[go_sem] theorem nesw_1 (h : 1 < (ByteArray.mk #[110, 101, 115, 119]).size) : (ByteArray.mk #[110, 101, 115, 119])[1]'h = 101 := rfl
@[go_sem] theorem nesw_2 (h : 2 < (ByteArray.mk #[110, 101, 115, 119]).size) : (ByteArray.mk #[110, 101, 115, 119])[2]'h = 115 := rfl
@[go_sem] theorem nesw_3 (h : 3 < (ByteArray.mk #[110, 101, 115, 119]).size) : (ByteArray.mk #[110, 101, 115, 119])[3]'h = 119 := rfl
theorem by_110 : by8 110 = 110 := by decide
theorem by_101 : by8 101 = 101 := by decide
theorem by_115 : by8 115 = 115 := by decide
theorem by_119 : by8 119 = 119 := by decide
theorem gap_yes {n : Nat} (h : 1 < n) : gapTx n = [32] := if_pos h
theorem gap_no {n : Nat} (h : ¬ 1 < n) : gapTx n = [] := if_neg h
set_option maxHeartbeats 8000000 in
theorem l04Text_any (v : Value) (n : Nat) (f : Nat → Int) (h1n : 1 ≤ n) (hn : n ≤ 80) (hf : CellsTo f n) (w : World) (h : SlA .i8 2 w v n f) :
    Calls Tryd.prog 51 #[v] w fun e w' => e = .returned (.string (tx (pathTx f n))) ∧ Below w.heap.size w w' := by
  obtain ⟨g, o, cap, rfl, hg, hcells⟩ := h.pos (by omega)
  have HF := Lib.hid hf
  have HC := Lib.hid hcells
  clear h hf hcells
  have a1 := HC.out 0 (by omega)
  have a2 := HC.out 1 (by omega)
  rw [Nat.add_zero] at a1
  have HHD := Lib.hid (show headTx f = [by8 (48 + f 0), 44, by8 (48 + f 1)] from rfl)
  have hxy := HF.out 0 (by omega)
  simp only [Nat.zero_mul, Nat.zero_add] at hxy
  obtain ⟨hx7, hy7⟩ := hxy
  have HPT := Lib.hid (show pathTx f n = headTx f ++ gapTx n ++ stepsTx f (n - 1) from rfl)
  generalize f 0 = x at a1 HHD hx7
  generalize f 1 = y at a2 HHD hy7
  obtain ⟨x', rfl⟩ : ∃ x' : Nat, x = x' := ⟨x.toNat, by omega⟩
  obtain ⟨y', rfl⟩ : ∃ y' : Nat, y = y' := ⟨y.toNat, by omega⟩
  have HDX := Lib.hid (fun w => sDecimal_d x' (by omega) w)
  have HDY := Lib.hid (fun w => sDecimal_d y' (by omega) w)
  have hwx : IntKind.i64.wrap (x' : Int) = (x' : Int) := IntWalk.i64_in _ (by omega)
  have hwy : IntKind.i64.wrap (y' : Int) = (y' : Int) := IntWalk.i64_in _ (by omega)
  have hn0 : ¬ n ≤ 0 := by omega
  have hn2 : 0 < n := by omega
  have hn1 : (0 : Int) < (n : Int) := by omega
  generalize by8 (48 + (x' : Int)) = bx at *
  generalize by8 (48 + (y' : Int)) = bz at *
  go_enter Tryd.func51, Tryd.ntmps51
  go_wp2
  go_region_held3 (fun w' => (rowOf w' g)[o]? = some (.int .i8 x') ∧ (rowOf w' g)[o + 1]? = some (.int .i8 y')) (go_simp) (first | (go_at_call 90; with_reducible refine (HDX.out _).mono ?_; rintro e w1 ⟨rfl, hb1⟩; have r1 := keep_rowA hb1; have f1 := keep_frA hb1; have s1 := hb1.size; (try simp only [World.size_alloc, World.size_setCell, setRow_size, World.size_drew, size_drewNm] at r1 f1 s1)) | (go_at_call 90; with_reducible refine (HDY.out _).mono ?_; rintro e w1 ⟨rfl, hb1⟩; have r1 := keep_rowA hb1; have f1 := keep_frA hb1; have s1 := hb1.size; (try simp only [World.size_alloc, World.size_setCell, setRow_size, World.size_drew, size_drewNm] at r1 f1 s1)))
  all_goals
    by_cases hgap : 1 < n
    · have HG := Lib.hid (gap_yes hgap)
      have hgi : (1 : Int) < (n : Int) := by omega
      go_wp2
      clear hgap hgi a1 a2
      go_loopw [4, 3] (fun i s wr => ∃ (j : Nat) (acc : List UInt8), j + 1 ≤ n ∧ i = .int .i64 ((j : Int) + 1) ∧ s = .string (tx acc) ∧ acc = headTx f ++ gapTx n ++ stepsTx f j ∧ Below w.heap.size w wr) (fun i s wr => n + 1 - (intOf i).toNat)
      case atStart => exact ⟨0, _, by omega, rfl, rfl, by rw [HHD.out, HG.out] <;> simp [stepsTx], by repeat' (first | with_reducible exact Below.refl _ _ | with_reducible assumption | with_reducible refine Below.drew ?_ | with_reducible refine Below.drewN ?_ _ | with_reducible refine Below.alloc ?_ ?_ _ | with_reducible refine Below.setCell ?_ ?_ _ | with_reducible refine Below.setRow ?_ ?_ _ | with_reducible refine below_step (by assumption) ?_ ?_ | (show (_ : Nat) ≤ _; first | omega | (simp <;> omega)))⟩
      case round =>
        obtain ⟨j, acc, hj, rfl, rfl, hacc, hb⟩ := hrel
        have hal : acc.length ≤ 4 * j + 4 := by rw [hacc, HHD.out, HG.out]; have := stepsTx_len f j; simp; omega
        have HA := Lib.hid hacc
        clear hacc
        have hsz := hb.size
        by_cases hlt : j + 1 < n
        · have hxy := HF.out j (by omega)
          have huv := HF.out (j + 1) hlt
          have e1 := HC.out (j * 2) (by omega)
          have e2 := HC.out (j * 2 + 1) (by omega)
          have e3 := HC.out ((j + 1) * 2) (by omega)
          have e4 := HC.out ((j + 1) * 2 + 1) (by omega)
          have HNX := Lib.hid (show stepsTx f (j + 1) = stepsTx f j ++ dirK (f (j * 2)) (f (j * 2 + 1)) (f ((j + 1) * 2)) (f ((j + 1) * 2 + 1)) 4 from rfl)
          generalize f (j * 2) = x1 at e1 HNX hxy
          generalize f (j * 2 + 1) = y1 at e2 HNX hxy
          generalize f ((j + 1) * 2) = x2 at e3 HNX huv
          generalize f ((j + 1) * 2 + 1) = y2 at e4 HNX huv
          rw [← Nat.add_assoc] at e2 e4
          have hms : ((j : Int) + 1) - 1 = (j : Int) := by omega
          have hwm : IntKind.i64.wrap (j : Int) = (j : Int) := IntWalk.i64_in _ (by omega)
          have hm1 : ¬ n ≤ j := by omega
          have hm2 : ¬ ((j : Int) + 1 < 0) := by omega
          have hm3 : ¬ n ≤ j + 1 := by omega
          have hm4 : ¬ n < j + 1 := by omega
          have hm6 : (0 : Int) ≤ (j : Int) := by omega
          have hm7 : (j : Int) < (n : Int) := by omega
          have hm8 : (0 : Int) ≤ (j : Int) + 1 := by omega
          have hm9 : (j : Int) + 1 < (n : Int) := by omega
          go_wp2
          go_loopw [5, 3] (fun i s wx => ∃ (k : Nat) (ac2 : List UInt8), k ≤ 4 ∧ i = .int .i64 k ∧ s = .string (tx ac2) ∧ ac2 = acc ++ dirK x1 y1 x2 y2 k ∧ Below w.heap.size w wx) (fun i s wx => 5 - (intOf i).toNat)
          case atStart => exact ⟨0, _, by omega, rfl, rfl, by simp [dirK], by repeat' (first | with_reducible exact Below.refl _ _ | with_reducible assumption | with_reducible refine Below.drew ?_ | with_reducible refine Below.drewN ?_ _ | with_reducible refine Below.alloc ?_ ?_ _ | with_reducible refine Below.setCell ?_ ?_ _ | with_reducible refine Below.setRow ?_ ?_ _ | with_reducible refine below_step (by assumption) ?_ ?_ | (show (_ : Nat) ≤ _; first | omega | (simp <;> omega)))⟩
          case round =>
            obtain ⟨k, ac2, hk, rfl, rfl, hac2, hb2⟩ := hrel
            have hal2 : ac2.length ≤ 4 * j + 8 := by rw [hac2]; have := dirK_len x1 y1 x2 y2 k; simp; omega
            have hal3 : ac2.length + 1 ≤ 9223372036854775807 := by omega
            have hal4 : ¬ 9223372036854775807 < ac2.length + 1 := by omega
            have HA2 := Lib.hid hac2
            clear hac2
            have hsz2 := hb2.size
            have hr1 := keep_row hb2 hg
            rw [← hr1] at e1 e2 e3 e4
            clear hr1
            have hgw : g < wr.heap.size := Nat.lt_of_lt_of_le hg hsz2
            by_cases hk4 : k < 4
            · have hd4 : decide ((k : Int) < 4) = true := decide_eq_true (by omega)
              have HX := Lib.hid (fun w => l01Next_any k hk4 x1 y1 (by omega) (by omega) w)
              rcases Bool.eq_false_or_eq_true (sameP (nx k x1 y1) x2 y2) with hs | hs
              · have HY := Lib.hid (dirK_yes hs)
                generalize nx k x1 y1 = p at *
                obtain ⟨px, py⟩ := p
                have hs2 : px = x2 ∧ py = y2 := by simpa [sameP] using hs
                obtain ⟨rfl, rfl⟩ := hs2
                clear hs
                rcases (show k = 0 ∨ k = 1 ∨ k = 2 ∨ k = 3 by omega) with rfl | rfl | rfl | rfl
                all_goals
                  go_wp2
                  go_region_held3 (fun w' => (rowOf w' g)[o + j * 2]? = some (.int .i8 x1) ∧ (rowOf w' g)[o + j * 2 + 1]? = some (.int .i8 y1) ∧ (rowOf w' g)[o + (j + 1) * 2]? = some (.int .i8 px) ∧ (rowOf w' g)[o + (j + 1) * 2 + 1]? = some (.int .i8 py)) (go_simp) ((go_at_call 77; refine (HX.out _).mono ?_; rintro e w1 ⟨rfl, hb1⟩; have r1 := keep_rowA hb1; have f1 := keep_frA hb1; have s1 := hb1.size; (try simp only [World.size_alloc, World.size_setCell, setRow_size, World.size_drew, size_drewNm] at r1 f1 s1)))
                  all_goals
                    go_wp2
                    go_roundw
                    case rel => first | first | exact ⟨1, _, by omega, by go_num, rfl, by rw [HY.out, HA2.out, by_110, show dirB 0 = 110 from rfl]; simp, by repeat' (first | with_reducible exact Below.refl _ _ | with_reducible assumption | with_reducible refine Below.drew ?_ | with_reducible refine Below.drewN ?_ _ | with_reducible refine Below.alloc ?_ ?_ _ | with_reducible refine Below.setCell ?_ ?_ _ | with_reducible refine Below.setRow ?_ ?_ _ | with_reducible refine below_step (by assumption) ?_ ?_ | (show (_ : Nat) ≤ _; first | omega | (simp <;> omega)))⟩ | ((repeat (with_reducible apply Exists.intro)); refine And.intro ?_ ?_; rotate_left; (focus ((repeat' (with_reducible apply And.intro)) <;> rfl)); exact ⟨1, _, by omega, by go_num, rfl, by rw [HY.out, HA2.out, by_110, show dirB 0 = 110 from rfl]; simp, by repeat' (first | with_reducible exact Below.refl _ _ | with_reducible assumption | with_reducible refine Below.drew ?_ | with_reducible refine Below.drewN ?_ _ | with_reducible refine Below.alloc ?_ ?_ _ | with_reducible refine Below.setCell ?_ ?_ _ | with_reducible refine Below.setRow ?_ ?_ _ | with_reducible refine below_step (by assumption) ?_ ?_ | (show (_ : Nat) ≤ _; first | omega | (simp <;> omega)))⟩) | first | exact ⟨2, _, by omega, by go_num, rfl, by rw [HY.out, HA2.out, by_101, show dirB 1 = 101 from rfl]; simp, by repeat' (first | with_reducible exact Below.refl _ _ | with_reducible assumption | with_reducible refine Below.drew ?_ | with_reducible refine Below.drewN ?_ _ | with_reducible refine Below.alloc ?_ ?_ _ | with_reducible refine Below.setCell ?_ ?_ _ | with_reducible refine Below.setRow ?_ ?_ _ | with_reducible refine below_step (by assumption) ?_ ?_ | (show (_ : Nat) ≤ _; first | omega | (simp <;> omega)))⟩ | ((repeat (with_reducible apply Exists.intro)); refine And.intro ?_ ?_; rotate_left; (focus ((repeat' (with_reducible apply And.intro)) <;> rfl)); exact ⟨2, _, by omega, by go_num, rfl, by rw [HY.out, HA2.out, by_101, show dirB 1 = 101 from rfl]; simp, by repeat' (first | with_reducible exact Below.refl _ _ | with_reducible assumption | with_reducible refine Below.drew ?_ | with_reducible refine Below.drewN ?_ _ | with_reducible refine Below.alloc ?_ ?_ _ | with_reducible refine Below.setCell ?_ ?_ _ | with_reducible refine Below.setRow ?_ ?_ _ | with_reducible refine below_step (by assumption) ?_ ?_ | (show (_ : Nat) ≤ _; first | omega | (simp <;> omega)))⟩) | first | exact ⟨3, _, by omega, by go_num, rfl, by rw [HY.out, HA2.out, by_115, show dirB 2 = 115 from rfl]; simp, by repeat' (first | with_reducible exact Below.refl _ _ | with_reducible assumption | with_reducible refine Below.drew ?_ | with_reducible refine Below.drewN ?_ _ | with_reducible refine Below.alloc ?_ ?_ _ | with_reducible refine Below.setCell ?_ ?_ _ | with_reducible refine Below.setRow ?_ ?_ _ | with_reducible refine below_step (by assumption) ?_ ?_ | (show (_ : Nat) ≤ _; first | omega | (simp <;> omega)))⟩ | ((repeat (with_reducible apply Exists.intro)); refine And.intro ?_ ?_; rotate_left; (focus ((repeat' (with_reducible apply And.intro)) <;> rfl)); exact ⟨3, _, by omega, by go_num, rfl, by rw [HY.out, HA2.out, by_115, show dirB 2 = 115 from rfl]; simp, by repeat' (first | with_reducible exact Below.refl _ _ | with_reducible assumption | with_reducible refine Below.drew ?_ | with_reducible refine Below.drewN ?_ _ | with_reducible refine Below.alloc ?_ ?_ _ | with_reducible refine Below.setCell ?_ ?_ _ | with_reducible refine Below.setRow ?_ ?_ _ | with_reducible refine below_step (by assumption) ?_ ?_ | (show (_ : Nat) ≤ _; first | omega | (simp <;> omega)))⟩) | first | exact ⟨4, _, by omega, by go_num, rfl, by rw [HY.out, HA2.out, by_119, show dirB 3 = 119 from rfl]; simp, by repeat' (first | with_reducible exact Below.refl _ _ | with_reducible assumption | with_reducible refine Below.drew ?_ | with_reducible refine Below.drewN ?_ _ | with_reducible refine Below.alloc ?_ ?_ _ | with_reducible refine Below.setCell ?_ ?_ _ | with_reducible refine Below.setRow ?_ ?_ _ | with_reducible refine below_step (by assumption) ?_ ?_ | (show (_ : Nat) ≤ _; first | omega | (simp <;> omega)))⟩ | ((repeat (with_reducible apply Exists.intro)); refine And.intro ?_ ?_; rotate_left; (focus ((repeat' (with_reducible apply And.intro)) <;> rfl)); exact ⟨4, _, by omega, by go_num, rfl, by rw [HY.out, HA2.out, by_119, show dirB 3 = 119 from rfl]; simp, by repeat' (first | with_reducible exact Below.refl _ _ | with_reducible assumption | with_reducible refine Below.drew ?_ | with_reducible refine Below.drewN ?_ _ | with_reducible refine Below.alloc ?_ ?_ _ | with_reducible refine Below.setCell ?_ ?_ _ | with_reducible refine Below.setRow ?_ ?_ _ | with_reducible refine below_step (by assumption) ?_ ?_ | (show (_ : Nat) ≤ _; first | omega | (simp <;> omega)))⟩)
                    case measure => simp [intOf]
              · have HN := Lib.hid (dirK_no hs)
                generalize nx k x1 y1 = p at HX hs
                obtain ⟨px, py⟩ := p
                by_cases h1 : px = x2
                · subst h1
                  have h2 : ¬ py = y2 := by simpa [sameP] using hs
                  have h2b : (py == y2) = false := by simpa using h2
                  have h2d : decide (py = y2) = false := decide_eq_false h2
                  clear hs h2
                  go_wp2
                  go_region_held3 (fun w' => (rowOf w' g)[o + j * 2]? = some (.int .i8 x1) ∧ (rowOf w' g)[o + j * 2 + 1]? = some (.int .i8 y1) ∧ (rowOf w' g)[o + (j + 1) * 2]? = some (.int .i8 px) ∧ (rowOf w' g)[o + (j + 1) * 2 + 1]? = some (.int .i8 y2)) (go_simp) ((go_at_call 77; refine (HX.out _).mono ?_; rintro e w1 ⟨rfl, hb1⟩; have r1 := keep_rowA hb1; have f1 := keep_frA hb1; have s1 := hb1.size; (try simp only [World.size_alloc, World.size_setCell, setRow_size, World.size_drew, size_drewNm] at r1 f1 s1)))
                  all_goals
                    go_wp2
                    go_roundw
                    case rel => first | exact ⟨k + 1, _, by omega, by go_num, rfl, by rw [HN.out, HA2.out], by repeat' (first | with_reducible exact Below.refl _ _ | with_reducible assumption | with_reducible refine Below.drew ?_ | with_reducible refine Below.drewN ?_ _ | with_reducible refine Below.alloc ?_ ?_ _ | with_reducible refine Below.setCell ?_ ?_ _ | with_reducible refine Below.setRow ?_ ?_ _ | with_reducible refine below_step (by assumption) ?_ ?_ | (show (_ : Nat) ≤ _; first | omega | (simp <;> omega)))⟩ | ((repeat (with_reducible apply Exists.intro)); refine And.intro ?_ ?_; rotate_left; (focus ((repeat' (with_reducible apply And.intro)) <;> rfl)); exact ⟨k + 1, _, by omega, by go_num, rfl, by rw [HN.out, HA2.out], by repeat' (first | with_reducible exact Below.refl _ _ | with_reducible assumption | with_reducible refine Below.drew ?_ | with_reducible refine Below.drewN ?_ _ | with_reducible refine Below.alloc ?_ ?_ _ | with_reducible refine Below.setCell ?_ ?_ _ | with_reducible refine Below.setRow ?_ ?_ _ | with_reducible refine below_step (by assumption) ?_ ?_ | (show (_ : Nat) ≤ _; first | omega | (simp <;> omega)))⟩)
                    case measure => simp [intOf]; omega
                · have h2b : (px == x2) = false := by simpa using h1
                  have h2d : decide (px = x2) = false := decide_eq_false h1
                  clear hs h1
                  go_wp2
                  go_region_held3 (fun w' => (rowOf w' g)[o + j * 2]? = some (.int .i8 x1) ∧ (rowOf w' g)[o + j * 2 + 1]? = some (.int .i8 y1) ∧ (rowOf w' g)[o + (j + 1) * 2]? = some (.int .i8 x2) ∧ (rowOf w' g)[o + (j + 1) * 2 + 1]? = some (.int .i8 y2)) (go_simp) ((go_at_call 77; refine (HX.out _).mono ?_; rintro e w1 ⟨rfl, hb1⟩; have r1 := keep_rowA hb1; have f1 := keep_frA hb1; have s1 := hb1.size; (try simp only [World.size_alloc, World.size_setCell, setRow_size, World.size_drew, size_drewNm] at r1 f1 s1)))
                  all_goals
                    go_wp2
                    go_roundw
                    case rel => first | exact ⟨k + 1, _, by omega, by go_num, rfl, by rw [HN.out, HA2.out], by repeat' (first | with_reducible exact Below.refl _ _ | with_reducible assumption | with_reducible refine Below.drew ?_ | with_reducible refine Below.drewN ?_ _ | with_reducible refine Below.alloc ?_ ?_ _ | with_reducible refine Below.setCell ?_ ?_ _ | with_reducible refine Below.setRow ?_ ?_ _ | with_reducible refine below_step (by assumption) ?_ ?_ | (show (_ : Nat) ≤ _; first | omega | (simp <;> omega)))⟩ | ((repeat (with_reducible apply Exists.intro)); refine And.intro ?_ ?_; rotate_left; (focus ((repeat' (with_reducible apply And.intro)) <;> rfl)); exact ⟨k + 1, _, by omega, by go_num, rfl, by rw [HN.out, HA2.out], by repeat' (first | with_reducible exact Below.refl _ _ | with_reducible assumption | with_reducible refine Below.drew ?_ | with_reducible refine Below.drewN ?_ _ | with_reducible refine Below.alloc ?_ ?_ _ | with_reducible refine Below.setCell ?_ ?_ _ | with_reducible refine Below.setRow ?_ ?_ _ | with_reducible refine below_step (by assumption) ?_ ?_ | (show (_ : Nat) ≤ _; first | omega | (simp <;> omega)))⟩)
                    case measure => simp [intOf]; omega
            · have hke : k = 4 := by omega
              subst hke
              go_wp2
              go_roundw
              case rel => first | exact ⟨j + 1, _, by omega, by go_num, rfl, by rw [HA2.out, HNX.out, HA.out] <;> simp, by repeat' (first | with_reducible exact Below.refl _ _ | with_reducible assumption | with_reducible refine Below.drew ?_ | with_reducible refine Below.drewN ?_ _ | with_reducible refine Below.alloc ?_ ?_ _ | with_reducible refine Below.setCell ?_ ?_ _ | with_reducible refine Below.setRow ?_ ?_ _ | with_reducible refine below_step (by assumption) ?_ ?_ | (show (_ : Nat) ≤ _; first | omega | (simp <;> omega)))⟩ | ((repeat (with_reducible apply Exists.intro)); refine And.intro ?_ ?_; rotate_left; (focus ((repeat' (with_reducible apply And.intro)) <;> rfl)); exact ⟨j + 1, _, by omega, by go_num, rfl, by rw [HA2.out, HNX.out, HA.out] <;> simp, by repeat' (first | with_reducible exact Below.refl _ _ | with_reducible assumption | with_reducible refine Below.drew ?_ | with_reducible refine Below.drewN ?_ _ | with_reducible refine Below.alloc ?_ ?_ _ | with_reducible refine Below.setCell ?_ ?_ _ | with_reducible refine Below.setRow ?_ ?_ _ | with_reducible refine below_step (by assumption) ?_ ?_ | (show (_ : Nat) ≤ _; first | omega | (simp <;> omega)))⟩)
              case measure => simp [intOf]; omega
        · have hje : n - 1 = j := by omega
          have HE := Lib.hid (show pathTx f n = acc by rw [HPT.out, hje, HA.out])
          have hm9 : ¬ ((j : Int) + 1 < (n : Int)) := by omega
          go_wp2
          go_ret
          exact ⟨by rw [HE.out]; rfl, by repeat' (first | with_reducible exact Below.refl _ _ | with_reducible assumption | with_reducible refine Below.drew ?_ | with_reducible refine Below.drewN ?_ _ | with_reducible refine Below.alloc ?_ ?_ _ | with_reducible refine Below.setCell ?_ ?_ _ | with_reducible refine Below.setRow ?_ ?_ _ | with_reducible refine below_step (by assumption) ?_ ?_ | (show (_ : Nat) ≤ _; first | omega | (simp <;> omega)))⟩
    · have HG := Lib.hid (gap_no hgap)
      have hgi : ¬ (1 : Int) < (n : Int) := by omega
      go_wp2
      clear hgap hgi a1 a2
      go_loopw [4, 3] (fun i s wr => ∃ (j : Nat) (acc : List UInt8), j + 1 ≤ n ∧ i = .int .i64 ((j : Int) + 1) ∧ s = .string (tx acc) ∧ acc = headTx f ++ gapTx n ++ stepsTx f j ∧ Below w.heap.size w wr) (fun i s wr => n + 1 - (intOf i).toNat)
      case atStart => exact ⟨0, _, by omega, rfl, rfl, by rw [HHD.out, HG.out] <;> simp [stepsTx], by repeat' (first | with_reducible exact Below.refl _ _ | with_reducible assumption | with_reducible refine Below.drew ?_ | with_reducible refine Below.drewN ?_ _ | with_reducible refine Below.alloc ?_ ?_ _ | with_reducible refine Below.setCell ?_ ?_ _ | with_reducible refine Below.setRow ?_ ?_ _ | with_reducible refine below_step (by assumption) ?_ ?_ | (show (_ : Nat) ≤ _; first | omega | (simp <;> omega)))⟩
      case round =>
        obtain ⟨j, acc, hj, rfl, rfl, hacc, hb⟩ := hrel
        have hal : acc.length ≤ 4 * j + 4 := by rw [hacc, HHD.out, HG.out]; have := stepsTx_len f j; simp; omega
        have HA := Lib.hid hacc
        clear hacc
        have hsz := hb.size
        by_cases hlt : j + 1 < n
        · have hxy := HF.out j (by omega)
          have huv := HF.out (j + 1) hlt
          have e1 := HC.out (j * 2) (by omega)
          have e2 := HC.out (j * 2 + 1) (by omega)
          have e3 := HC.out ((j + 1) * 2) (by omega)
          have e4 := HC.out ((j + 1) * 2 + 1) (by omega)
          have HNX := Lib.hid (show stepsTx f (j + 1) = stepsTx f j ++ dirK (f (j * 2)) (f (j * 2 + 1)) (f ((j + 1) * 2)) (f ((j + 1) * 2 + 1)) 4 from rfl)
          generalize f (j * 2) = x1 at e1 HNX hxy
          generalize f (j * 2 + 1) = y1 at e2 HNX hxy
          generalize f ((j + 1) * 2) = x2 at e3 HNX huv
          generalize f ((j + 1) * 2 + 1) = y2 at e4 HNX huv
          rw [← Nat.add_assoc] at e2 e4
          have hms : ((j : Int) + 1) - 1 = (j : Int) := by omega
          have hwm : IntKind.i64.wrap (j : Int) = (j : Int) := IntWalk.i64_in _ (by omega)
          have hm1 : ¬ n ≤ j := by omega
          have hm2 : ¬ ((j : Int) + 1 < 0) := by omega
          have hm3 : ¬ n ≤ j + 1 := by omega
          have hm4 : ¬ n < j + 1 := by omega
          have hm6 : (0 : Int) ≤ (j : Int) := by omega
          have hm7 : (j : Int) < (n : Int) := by omega
          have hm8 : (0 : Int) ≤ (j : Int) + 1 := by omega
          have hm9 : (j : Int) + 1 < (n : Int) := by omega
          go_wp2
          go_loopw [5, 3] (fun i s wx => ∃ (k : Nat) (ac2 : List UInt8), k ≤ 4 ∧ i = .int .i64 k ∧ s = .string (tx ac2) ∧ ac2 = acc ++ dirK x1 y1 x2 y2 k ∧ Below w.heap.size w wx) (fun i s wx => 5 - (intOf i).toNat)
          case atStart => exact ⟨0, _, by omega, rfl, rfl, by simp [dirK], by repeat' (first | with_reducible exact Below.refl _ _ | with_reducible assumption | with_reducible refine Below.drew ?_ | with_reducible refine Below.drewN ?_ _ | with_reducible refine Below.alloc ?_ ?_ _ | with_reducible refine Below.setCell ?_ ?_ _ | with_reducible refine Below.setRow ?_ ?_ _ | with_reducible refine below_step (by assumption) ?_ ?_ | (show (_ : Nat) ≤ _; first | omega | (simp <;> omega)))⟩
          case round =>
            obtain ⟨k, ac2, hk, rfl, rfl, hac2, hb2⟩ := hrel
            have hal2 : ac2.length ≤ 4 * j + 8 := by rw [hac2]; have := dirK_len x1 y1 x2 y2 k; simp; omega
            have hal3 : ac2.length + 1 ≤ 9223372036854775807 := by omega
            have hal4 : ¬ 9223372036854775807 < ac2.length + 1 := by omega
            have HA2 := Lib.hid hac2
            clear hac2
            have hsz2 := hb2.size
            have hr1 := keep_row hb2 hg
            rw [← hr1] at e1 e2 e3 e4
            clear hr1
            have hgw : g < wr.heap.size := Nat.lt_of_lt_of_le hg hsz2
            by_cases hk4 : k < 4
            · have hd4 : decide ((k : Int) < 4) = true := decide_eq_true (by omega)
              have HX := Lib.hid (fun w => l01Next_any k hk4 x1 y1 (by omega) (by omega) w)
              rcases Bool.eq_false_or_eq_true (sameP (nx k x1 y1) x2 y2) with hs | hs
              · have HY := Lib.hid (dirK_yes hs)
                generalize nx k x1 y1 = p at *
                obtain ⟨px, py⟩ := p
                have hs2 : px = x2 ∧ py = y2 := by simpa [sameP] using hs
                obtain ⟨rfl, rfl⟩ := hs2
                clear hs
                rcases (show k = 0 ∨ k = 1 ∨ k = 2 ∨ k = 3 by omega) with rfl | rfl | rfl | rfl
                all_goals
                  go_wp2
                  go_region_held3 (fun w' => (rowOf w' g)[o + j * 2]? = some (.int .i8 x1) ∧ (rowOf w' g)[o + j * 2 + 1]? = some (.int .i8 y1) ∧ (rowOf w' g)[o + (j + 1) * 2]? = some (.int .i8 px) ∧ (rowOf w' g)[o + (j + 1) * 2 + 1]? = some (.int .i8 py)) (go_simp) ((go_at_call 77; refine (HX.out _).mono ?_; rintro e w1 ⟨rfl, hb1⟩; have r1 := keep_rowA hb1; have f1 := keep_frA hb1; have s1 := hb1.size; (try simp only [World.size_alloc, World.size_setCell, setRow_size, World.size_drew, size_drewNm] at r1 f1 s1)))
                  all_goals
                    go_wp2
                    go_roundw
                    case rel => first | first | exact ⟨1, _, by omega, by go_num, rfl, by rw [HY.out, HA2.out, by_110, show dirB 0 = 110 from rfl]; simp, by repeat' (first | with_reducible exact Below.refl _ _ | with_reducible assumption | with_reducible refine Below.drew ?_ | with_reducible refine Below.drewN ?_ _ | with_reducible refine Below.alloc ?_ ?_ _ | with_reducible refine Below.setCell ?_ ?_ _ | with_reducible refine Below.setRow ?_ ?_ _ | with_reducible refine below_step (by assumption) ?_ ?_ | (show (_ : Nat) ≤ _; first | omega | (simp <;> omega)))⟩ | ((repeat (with_reducible apply Exists.intro)); refine And.intro ?_ ?_; rotate_left; (focus ((repeat' (with_reducible apply And.intro)) <;> rfl)); exact ⟨1, _, by omega, by go_num, rfl, by rw [HY.out, HA2.out, by_110, show dirB 0 = 110 from rfl]; simp, by repeat' (first | with_reducible exact Below.refl _ _ | with_reducible assumption | with_reducible refine Below.drew ?_ | with_reducible refine Below.drewN ?_ _ | with_reducible refine Below.alloc ?_ ?_ _ | with_reducible refine Below.setCell ?_ ?_ _ | with_reducible refine Below.setRow ?_ ?_ _ | with_reducible refine below_step (by assumption) ?_ ?_ | (show (_ : Nat) ≤ _; first | omega | (simp <;> omega)))⟩) | first | exact ⟨2, _, by omega, by go_num, rfl, by rw [HY.out, HA2.out, by_101, show dirB 1 = 101 from rfl]; simp, by repeat' (first | with_reducible exact Below.refl _ _ | with_reducible assumption | with_reducible refine Below.drew ?_ | with_reducible refine Below.drewN ?_ _ | with_reducible refine Below.alloc ?_ ?_ _ | with_reducible refine Below.setCell ?_ ?_ _ | with_reducible refine Below.setRow ?_ ?_ _ | with_reducible refine below_step (by assumption) ?_ ?_ | (show (_ : Nat) ≤ _; first | omega | (simp <;> omega)))⟩ | ((repeat (with_reducible apply Exists.intro)); refine And.intro ?_ ?_; rotate_left; (focus ((repeat' (with_reducible apply And.intro)) <;> rfl)); exact ⟨2, _, by omega, by go_num, rfl, by rw [HY.out, HA2.out, by_101, show dirB 1 = 101 from rfl]; simp, by repeat' (first | with_reducible exact Below.refl _ _ | with_reducible assumption | with_reducible refine Below.drew ?_ | with_reducible refine Below.drewN ?_ _ | with_reducible refine Below.alloc ?_ ?_ _ | with_reducible refine Below.setCell ?_ ?_ _ | with_reducible refine Below.setRow ?_ ?_ _ | with_reducible refine below_step (by assumption) ?_ ?_ | (show (_ : Nat) ≤ _; first | omega | (simp <;> omega)))⟩) | first | exact ⟨3, _, by omega, by go_num, rfl, by rw [HY.out, HA2.out, by_115, show dirB 2 = 115 from rfl]; simp, by repeat' (first | with_reducible exact Below.refl _ _ | with_reducible assumption | with_reducible refine Below.drew ?_ | with_reducible refine Below.drewN ?_ _ | with_reducible refine Below.alloc ?_ ?_ _ | with_reducible refine Below.setCell ?_ ?_ _ | with_reducible refine Below.setRow ?_ ?_ _ | with_reducible refine below_step (by assumption) ?_ ?_ | (show (_ : Nat) ≤ _; first | omega | (simp <;> omega)))⟩ | ((repeat (with_reducible apply Exists.intro)); refine And.intro ?_ ?_; rotate_left; (focus ((repeat' (with_reducible apply And.intro)) <;> rfl)); exact ⟨3, _, by omega, by go_num, rfl, by rw [HY.out, HA2.out, by_115, show dirB 2 = 115 from rfl]; simp, by repeat' (first | with_reducible exact Below.refl _ _ | with_reducible assumption | with_reducible refine Below.drew ?_ | with_reducible refine Below.drewN ?_ _ | with_reducible refine Below.alloc ?_ ?_ _ | with_reducible refine Below.setCell ?_ ?_ _ | with_reducible refine Below.setRow ?_ ?_ _ | with_reducible refine below_step (by assumption) ?_ ?_ | (show (_ : Nat) ≤ _; first | omega | (simp <;> omega)))⟩) | first | exact ⟨4, _, by omega, by go_num, rfl, by rw [HY.out, HA2.out, by_119, show dirB 3 = 119 from rfl]; simp, by repeat' (first | with_reducible exact Below.refl _ _ | with_reducible assumption | with_reducible refine Below.drew ?_ | with_reducible refine Below.drewN ?_ _ | with_reducible refine Below.alloc ?_ ?_ _ | with_reducible refine Below.setCell ?_ ?_ _ | with_reducible refine Below.setRow ?_ ?_ _ | with_reducible refine below_step (by assumption) ?_ ?_ | (show (_ : Nat) ≤ _; first | omega | (simp <;> omega)))⟩ | ((repeat (with_reducible apply Exists.intro)); refine And.intro ?_ ?_; rotate_left; (focus ((repeat' (with_reducible apply And.intro)) <;> rfl)); exact ⟨4, _, by omega, by go_num, rfl, by rw [HY.out, HA2.out, by_119, show dirB 3 = 119 from rfl]; simp, by repeat' (first | with_reducible exact Below.refl _ _ | with_reducible assumption | with_reducible refine Below.drew ?_ | with_reducible refine Below.drewN ?_ _ | with_reducible refine Below.alloc ?_ ?_ _ | with_reducible refine Below.setCell ?_ ?_ _ | with_reducible refine Below.setRow ?_ ?_ _ | with_reducible refine below_step (by assumption) ?_ ?_ | (show (_ : Nat) ≤ _; first | omega | (simp <;> omega)))⟩)
                    case measure => simp [intOf]
              · have HN := Lib.hid (dirK_no hs)
                generalize nx k x1 y1 = p at HX hs
                obtain ⟨px, py⟩ := p
                by_cases h1 : px = x2
                · subst h1
                  have h2 : ¬ py = y2 := by simpa [sameP] using hs
                  have h2b : (py == y2) = false := by simpa using h2
                  have h2d : decide (py = y2) = false := decide_eq_false h2
                  clear hs h2
                  go_wp2
                  go_region_held3 (fun w' => (rowOf w' g)[o + j * 2]? = some (.int .i8 x1) ∧ (rowOf w' g)[o + j * 2 + 1]? = some (.int .i8 y1) ∧ (rowOf w' g)[o + (j + 1) * 2]? = some (.int .i8 px) ∧ (rowOf w' g)[o + (j + 1) * 2 + 1]? = some (.int .i8 y2)) (go_simp) ((go_at_call 77; refine (HX.out _).mono ?_; rintro e w1 ⟨rfl, hb1⟩; have r1 := keep_rowA hb1; have f1 := keep_frA hb1; have s1 := hb1.size; (try simp only [World.size_alloc, World.size_setCell, setRow_size, World.size_drew, size_drewNm] at r1 f1 s1)))
                  all_goals
                    go_wp2
                    go_roundw
                    case rel => first | exact ⟨k + 1, _, by omega, by go_num, rfl, by rw [HN.out, HA2.out], by repeat' (first | with_reducible exact Below.refl _ _ | with_reducible assumption | with_reducible refine Below.drew ?_ | with_reducible refine Below.drewN ?_ _ | with_reducible refine Below.alloc ?_ ?_ _ | with_reducible refine Below.setCell ?_ ?_ _ | with_reducible refine Below.setRow ?_ ?_ _ | with_reducible refine below_step (by assumption) ?_ ?_ | (show (_ : Nat) ≤ _; first | omega | (simp <;> omega)))⟩ | ((repeat (with_reducible apply Exists.intro)); refine And.intro ?_ ?_; rotate_left; (focus ((repeat' (with_reducible apply And.intro)) <;> rfl)); exact ⟨k + 1, _, by omega, by go_num, rfl, by rw [HN.out, HA2.out], by repeat' (first | with_reducible exact Below.refl _ _ | with_reducible assumption | with_reducible refine Below.drew ?_ | with_reducible refine Below.drewN ?_ _ | with_reducible refine Below.alloc ?_ ?_ _ | with_reducible refine Below.setCell ?_ ?_ _ | with_reducible refine Below.setRow ?_ ?_ _ | with_reducible refine below_step (by assumption) ?_ ?_ | (show (_ : Nat) ≤ _; first | omega | (simp <;> omega)))⟩)
                    case measure => simp [intOf]; omega
                · have h2b : (px == x2) = false := by simpa using h1
                  have h2d : decide (px = x2) = false := decide_eq_false h1
                  clear hs h1
                  go_wp2
                  go_region_held3 (fun w' => (rowOf w' g)[o + j * 2]? = some (.int .i8 x1) ∧ (rowOf w' g)[o + j * 2 + 1]? = some (.int .i8 y1) ∧ (rowOf w' g)[o + (j + 1) * 2]? = some (.int .i8 x2) ∧ (rowOf w' g)[o + (j + 1) * 2 + 1]? = some (.int .i8 y2)) (go_simp) ((go_at_call 77; refine (HX.out _).mono ?_; rintro e w1 ⟨rfl, hb1⟩; have r1 := keep_rowA hb1; have f1 := keep_frA hb1; have s1 := hb1.size; (try simp only [World.size_alloc, World.size_setCell, setRow_size, World.size_drew, size_drewNm] at r1 f1 s1)))
                  all_goals
                    go_wp2
                    go_roundw
                    case rel => first | exact ⟨k + 1, _, by omega, by go_num, rfl, by rw [HN.out, HA2.out], by repeat' (first | with_reducible exact Below.refl _ _ | with_reducible assumption | with_reducible refine Below.drew ?_ | with_reducible refine Below.drewN ?_ _ | with_reducible refine Below.alloc ?_ ?_ _ | with_reducible refine Below.setCell ?_ ?_ _ | with_reducible refine Below.setRow ?_ ?_ _ | with_reducible refine below_step (by assumption) ?_ ?_ | (show (_ : Nat) ≤ _; first | omega | (simp <;> omega)))⟩ | ((repeat (with_reducible apply Exists.intro)); refine And.intro ?_ ?_; rotate_left; (focus ((repeat' (with_reducible apply And.intro)) <;> rfl)); exact ⟨k + 1, _, by omega, by go_num, rfl, by rw [HN.out, HA2.out], by repeat' (first | with_reducible exact Below.refl _ _ | with_reducible assumption | with_reducible refine Below.drew ?_ | with_reducible refine Below.drewN ?_ _ | with_reducible refine Below.alloc ?_ ?_ _ | with_reducible refine Below.setCell ?_ ?_ _ | with_reducible refine Below.setRow ?_ ?_ _ | with_reducible refine below_step (by assumption) ?_ ?_ | (show (_ : Nat) ≤ _; first | omega | (simp <;> omega)))⟩)
                    case measure => simp [intOf]; omega
            · have hke : k = 4 := by omega
              subst hke
              go_wp2
              go_roundw
              case rel => first | exact ⟨j + 1, _, by omega, by go_num, rfl, by rw [HA2.out, HNX.out, HA.out] <;> simp, by repeat' (first | with_reducible exact Below.refl _ _ | with_reducible assumption | with_reducible refine Below.drew ?_ | with_reducible refine Below.drewN ?_ _ | with_reducible refine Below.alloc ?_ ?_ _ | with_reducible refine Below.setCell ?_ ?_ _ | with_reducible refine Below.setRow ?_ ?_ _ | with_reducible refine below_step (by assumption) ?_ ?_ | (show (_ : Nat) ≤ _; first | omega | (simp <;> omega)))⟩ | ((repeat (with_reducible apply Exists.intro)); refine And.intro ?_ ?_; rotate_left; (focus ((repeat' (with_reducible apply And.intro)) <;> rfl)); exact ⟨j + 1, _, by omega, by go_num, rfl, by rw [HA2.out, HNX.out, HA.out] <;> simp, by repeat' (first | with_reducible exact Below.refl _ _ | with_reducible assumption | with_reducible refine Below.drew ?_ | with_reducible refine Below.drewN ?_ _ | with_reducible refine Below.alloc ?_ ?_ _ | with_reducible refine Below.setCell ?_ ?_ _ | with_reducible refine Below.setRow ?_ ?_ _ | with_reducible refine below_step (by assumption) ?_ ?_ | (show (_ : Nat) ≤ _; first | omega | (simp <;> omega)))⟩)
              case measure => simp [intOf]; omega
        · have hje : n - 1 = j := by omega
          have HE := Lib.hid (show pathTx f n = acc by rw [HPT.out, hje, HA.out])
          have hm9 : ¬ ((j : Int) + 1 < (n : Int)) := by omega
          go_wp2
          go_ret
          exact ⟨by rw [HE.out]; rfl, by repeat' (first | with_reducible exact Below.refl _ _ | with_reducible assumption | with_reducible refine Below.drew ?_ | with_reducible refine Below.drewN ?_ _ | with_reducible refine Below.alloc ?_ ?_ _ | with_reducible refine Below.setCell ?_ ?_ _ | with_reducible refine Below.setRow ?_ ?_ _ | with_reducible refine below_step (by assumption) ?_ ?_ | (show (_ : Nat) ≤ _; first | omega | (simp <;> omega)))⟩
end Go.Proofs.YtbnhhjjhjjmmjaaDoor
/- The text of a path: the program. -/
namespace Go.Proofs.YtbnhhjjhjjmmjaaDoor
open Go.RowKit
set_option linter.unusedVariables false
set_option linter.unusedSimpArgs false
set_option maxRecDepth 100000
theorem off_any (x y : Int) (hx : -128 ≤ x ∧ x ≤ 127) (hy : -128 ≤ y ∧ y ≤ 127) (w : World) :
    Calls Tryd.prog 55 #[spotV x y] w fun e w' => e = .returned (.bool (!(inB x 0 7 && inB y 0 7))) ∧ Below w.heap.size w w' := by
  have hwx : IntKind.i64.wrap x = x := IntWalk.i64_in _ (by omega)
  have hwy : IntKind.i64.wrap y = y := IntWalk.i64_in _ (by omega)
  rcases Bool.eq_false_or_eq_true (inB x 0 7) with h1 | h1
  · have HX := Lib.hid (fun w => h1 ▸ within_any x 0 7 w)
    have HY := Lib.hid (fun w => within_any y 0 7 w)
    rw [h1]
    clear h1
    go_enter Tryd.func55, Tryd.ntmps55
    go_wp2_with (first | (go_at_call 47; (with_reducible refine (HX.out _).mono ?_); rintro e w1 ⟨rfl, rfl⟩) | (go_at_call 47; (with_reducible refine (HY.out _).mono ?_); rintro e w1 ⟨rfl, rfl⟩))
    go_ret
    exact ⟨by simp, by repeat' (first | with_reducible exact Below.refl _ _ | with_reducible assumption | with_reducible refine Below.drew ?_ | with_reducible refine Below.drewN ?_ _ | with_reducible refine Below.alloc ?_ ?_ _ | with_reducible refine Below.setCell ?_ ?_ _ | with_reducible refine Below.setRow ?_ ?_ _ | with_reducible refine below_step (by assumption) ?_ ?_ | (show (_ : Nat) ≤ _; first | omega | (simp <;> omega)))⟩
  · have HX := Lib.hid (fun w => h1 ▸ within_any x 0 7 w)
    rw [h1]
    clear h1
    go_enter Tryd.func55, Tryd.ntmps55
    go_wp2_with (first | (go_at_call 47; (with_reducible refine (HX.out _).mono ?_); rintro e w1 ⟨rfl, rfl⟩))
    go_ret
    exact ⟨rfl, by repeat' (first | with_reducible exact Below.refl _ _ | with_reducible assumption | with_reducible refine Below.drew ?_ | with_reducible refine Below.drewN ?_ _ | with_reducible refine Below.alloc ?_ ?_ _ | with_reducible refine Below.setCell ?_ ?_ _ | with_reducible refine Below.setRow ?_ ?_ _ | with_reducible refine below_step (by assumption) ?_ ?_ | (show (_ : Nat) ≤ _; first | omega | (simp <;> omega)))⟩
set_option maxHeartbeats 4000000 in
theorem offFrom_any (v : Value) (n : Nat) (f : Nat → Int) (hn : n ≤ 1048576) (hf : ∀ j, j < n * 2 → -128 ≤ f j ∧ f j ≤ 127) (w : World) (h : SlA .i8 2 w v n f) :
    Calls Tryd.prog 94 #[v, .func (.func 55) #[] #[]] w fun e w' => ∃ k : Int, e = .returned (.int .i64 k) ∧ decide (0 ≤ k) = (!(cells8 f n)) ∧ -1 ≤ k ∧ k ≤ n ∧ Below w.heap.size w w' := by
  obtain ⟨a, cap, rfl⟩ := h.len
  have HH := Lib.hid h
  have HF := Lib.hid hf
  clear h hf
  go_enter Tryd.func94, Tryd.ntmps94
  go_wp2
  go_loopw [8] (fun i wr => ∃ k : Nat, k ≤ n ∧ i = .int .i64 k ∧ Below w.heap.size w wr ∧ CellsTo f k) (fun i wr => n + 1 - (intOf i).toNat)
  case atStart => exact ⟨0, by omega, rfl, by repeat' (first | with_reducible exact Below.refl _ _ | with_reducible assumption | with_reducible refine Below.drew ?_ | with_reducible refine Below.drewN ?_ _ | with_reducible refine Below.alloc ?_ ?_ _ | with_reducible refine Below.setCell ?_ ?_ _ | with_reducible refine Below.setRow ?_ ?_ _ | with_reducible refine below_step (by assumption) ?_ ?_ | (show (_ : Nat) ≤ _; first | omega | (simp <;> omega))), fun i h1 => by omega⟩
  case round =>
    obtain ⟨k, hk1, rfl, hb, hin⟩ := hrel
    have hsz := hb.size
    have HIN := Lib.hid hin
    clear hin
    by_cases hlt : k < n
    · obtain ⟨g, o, cap', hv, hg, hcells⟩ := HH.out.pos (by omega)
      simp only [Value.slice.injEq] at hv
      obtain ⟨rfl, -, rfl⟩ := hv
      have hr1 := keep_row hb hg
      have hw1 : g < wr.heap.size := Nat.lt_of_lt_of_le hg hb.size
      have e1 := hcells (k * 2) (by omega)
      have e2 := hcells (k * 2 + 1) (by omega)
      rw [← hr1] at e1 e2
      rw [← Nat.add_assoc] at e2
      clear hcells hr1
      have hOS := fun w => off_any (f (k * 2)) (f (k * 2 + 1)) (HF.out _ (by omega)) (HF.out _ (by omega)) w
      rcases Bool.eq_false_or_eq_true (inB (f (k * 2)) 0 7 && inB (f (k * 2 + 1)) 0 7) with hs | hs
      · rw [hs] at hOS
        have HOS := Lib.hid hOS
        rw [Bool.and_eq_true] at hs
        have HN := Lib.hid (cells8_next HIN.out ⟨inB_true.1 hs.1, inB_true.1 hs.2⟩)
        clear hOS hs
        generalize f (k * 2) = x1 at *
        generalize f (k * 2 + 1) = y1 at *
        go_wp2_with ((go_at_call 55; refine (HOS.out _).mono ?_; rintro e w1 ⟨rfl, hb1⟩; have r1 := keep_rowA hb1; have f1 := keep_frA hb1; have s1 := hb1.size; (try simp only [World.size_alloc, World.size_setCell, setRow_size, World.size_drew, size_drewNm] at r1 f1 s1)))
        go_roundw
        case rel => first | exact ⟨k + 1, by omega, by go_num, by repeat' (first | with_reducible exact Below.refl _ _ | with_reducible assumption | with_reducible refine Below.drew ?_ | with_reducible refine Below.drewN ?_ _ | with_reducible refine Below.alloc ?_ ?_ _ | with_reducible refine Below.setCell ?_ ?_ _ | with_reducible refine Below.setRow ?_ ?_ _ | with_reducible refine below_step (by assumption) ?_ ?_ | (show (_ : Nat) ≤ _; first | omega | (simp <;> omega))), HN.out⟩ | ((repeat (with_reducible apply Exists.intro)); refine And.intro ?_ ?_; rotate_left; (focus ((repeat' (with_reducible apply And.intro)) <;> rfl)); exact ⟨k + 1, by omega, by go_num, by repeat' (first | with_reducible exact Below.refl _ _ | with_reducible assumption | with_reducible refine Below.drew ?_ | with_reducible refine Below.drewN ?_ _ | with_reducible refine Below.alloc ?_ ?_ _ | with_reducible refine Below.setCell ?_ ?_ _ | with_reducible refine Below.setRow ?_ ?_ _ | with_reducible refine below_step (by assumption) ?_ ?_ | (show (_ : Nat) ≤ _; first | omega | (simp <;> omega))), HN.out⟩)
        case measure => simp [intOf] <;> omega
      · rw [hs] at hOS
        have HOS := Lib.hid hOS
        have HN := Lib.hid (cells8_no hlt (fun h => by rw [inB_true.2 h.1, inB_true.2 h.2] at hs; cases hs))
        clear hOS hs
        generalize f (k * 2) = x1 at *
        generalize f (k * 2 + 1) = y1 at *
        go_wp2_with ((go_at_call 55; refine (HOS.out _).mono ?_; rintro e w1 ⟨rfl, hb1⟩; have r1 := keep_rowA hb1; have f1 := keep_frA hb1; have s1 := hb1.size; (try simp only [World.size_alloc, World.size_setCell, setRow_size, World.size_drew, size_drewNm] at r1 f1 s1)))
        go_ret
        exact ⟨k, rfl, by rw [HN.out]; exact decide_eq_true (by omega), by omega, by omega, by repeat' (first | with_reducible exact Below.refl _ _ | with_reducible assumption | with_reducible refine Below.drew ?_ | with_reducible refine Below.drewN ?_ _ | with_reducible refine Below.alloc ?_ ?_ _ | with_reducible refine Below.setCell ?_ ?_ _ | with_reducible refine Below.setRow ?_ ?_ _ | with_reducible refine below_step (by assumption) ?_ ?_ | (show (_ : Nat) ≤ _; first | omega | (simp <;> omega)))⟩
    · have hke : k = n := by omega
      subst hke
      have HV := Lib.hid (cells8_yes HIN.out)
      go_wp2
      go_ret
      exact ⟨-1, rfl, by rw [HV.out]; rfl, by omega, by omega, by repeat' (first | with_reducible exact Below.refl _ _ | with_reducible assumption | with_reducible refine Below.drew ?_ | with_reducible refine Below.drewN ?_ _ | with_reducible refine Below.alloc ?_ ?_ _ | with_reducible refine Below.setCell ?_ ?_ _ | with_reducible refine Below.setRow ?_ ?_ _ | with_reducible refine below_step (by assumption) ?_ ?_ | (show (_ : Nat) ≤ _; first | omega | (simp <;> omega)))⟩
theorem offAny_any (v : Value) (n : Nat) (f : Nat → Int) (hn : n ≤ 1048576) (hf : ∀ j, j < n * 2 → -128 ≤ f j ∧ f j ≤ 127) (w : World) (h : SlA .i8 2 w v n f) :
    Calls Tryd.prog 54 #[v, .func (.func 55) #[] #[]] w fun e w' => e = .returned (.bool (!(cells8 f n))) ∧ Below w.heap.size w w' := by
  have HX := Lib.hid (offFrom_any v n f hn hf w h)
  generalize hb : (!(cells8 f n)) = b at *
  have HB := Lib.hid hb
  clear hb h
  go_enter Tryd.func54, Tryd.ntmps54
  go_wp2_with (go_at_call 94; refine HX.out.mono ?_; rintro e w1 ⟨k, rfl, hk, hk1, hk2, hb1⟩)
  go_ret
  exact ⟨by rw [← hk]; rfl, by repeat' (first | with_reducible exact Below.refl _ _ | with_reducible assumption | with_reducible refine Below.drew ?_ | with_reducible refine Below.drewN ?_ _ | with_reducible refine Below.alloc ?_ ?_ _ | with_reducible refine Below.setCell ?_ ?_ _ | with_reducible refine Below.setRow ?_ ?_ _ | with_reducible refine below_step (by assumption) ?_ ?_ | (show (_ : Nat) ≤ _; first | omega | (simp <;> omega)))⟩
set_option maxHeartbeats 4000000 in
theorem index_which (g : Nat) (P : Nat → Int × Int) (u v : Int) (m : Nat) (hm : m < 4) (hyes : sameP (P m) u v = true) (hno : ∀ j, j < m → sameP (P j) u v = false) (w : World) (hg : g < w.heap.size) (hr : ∀ j, j < 4 → (rowOf w g)[j * 2]? = some (.int .i8 (P j).1) ∧ (rowOf w g)[j * 2 + 1]? = some (.int .i8 (P j).2)) : Calls Tryd.prog 56 #[.slice (some ⟨g, 0, none⟩) 4 4, spotV u v] w fun e w' => e = .returned (.int .i64 m) ∧ Below w.heap.size w w' := by
  have HR := Lib.hid hr
  have HY := Lib.hid hyes
  have HN := Lib.hid hno
  clear hr hyes hno
  go_enter Tryd.func56, Tryd.ntmps56
  go_wp2
  go_loopw [8] (fun i wr => ∃ k : Nat, k ≤ m ∧ i = .int .i64 k ∧ Below w.heap.size w wr ∧ w.heap.size + 1 ≤ wr.heap.size ∧ rowOf wr w.heap.size = #[.int .i8 u, .int .i8 v]) (fun i wr => 5 - (intOf i).toNat)
  case atStart => exact ⟨0, by omega, rfl, by repeat' (first | with_reducible exact Below.refl _ _ | with_reducible assumption | with_reducible refine Below.drew ?_ | with_reducible refine Below.drewN ?_ _ | with_reducible refine Below.alloc ?_ ?_ _ | with_reducible refine Below.setCell ?_ ?_ _ | with_reducible refine Below.setRow ?_ ?_ _ | with_reducible refine below_step (by assumption) ?_ ?_ | (show (_ : Nat) ≤ _; first | omega | (simp <;> omega))), by simp, by (go_simp <;> (intros; omega))⟩
  case round =>
    obtain ⟨k, hk, rfl, hb, hsz, hr0⟩ := hrel
    have hrow := keep_row hb hg
    have hgw : g < wr.heap.size := Nat.lt_of_lt_of_le hg hb.size
    have hk4 : k < 4 := by omega
    have hd4 : decide ((k : Int) < 4) = true := decide_eq_true (by omega)
    obtain ⟨e1, e2⟩ := HR.out k hk4
    rw [← hrow] at e1 e2
    clear hrow
    by_cases hkm : k = m
    · subst hkm
      have hs := HY.out
      clear HY HN
      generalize P k = p at *
      obtain ⟨px, py⟩ := p
      have hs2 : px = u ∧ py = v := by simpa [sameP] using hs
      obtain ⟨rfl, rfl⟩ := hs2
      clear hs
      go_wp2
      go_quiet (fail)
      go_wp2
      go_ret
      exact ⟨rfl, by repeat' (first | with_reducible exact Below.refl _ _ | with_reducible assumption | with_reducible refine Below.drew ?_ | with_reducible refine Below.drewN ?_ _ | with_reducible refine Below.alloc ?_ ?_ _ | with_reducible refine Below.setCell ?_ ?_ _ | with_reducible refine Below.setRow ?_ ?_ _ | with_reducible refine below_step (by assumption) ?_ ?_ | (show (_ : Nat) ≤ _; first | omega | (simp <;> omega)))⟩
    · have hs := HN.out k (by omega)
      generalize P k = p at e1 e2 hs
      obtain ⟨px, py⟩ := p
      by_cases h1 : px = u
      · subst h1
        have h2 : ¬ py = v := by simpa [sameP] using hs
        have h2b : (py == v) = false := by simpa using h2
        have h2c : (v == py) = false := by simpa using fun h => h2 h.symm
        clear hs h2
        go_wp2
        go_quiet (fail)
        go_wp2
        go_roundw
        case rel => first | exact ⟨k + 1, by omega, by go_num, by repeat' (first | with_reducible exact Below.refl _ _ | with_reducible assumption | with_reducible refine Below.drew ?_ | with_reducible refine Below.drewN ?_ _ | with_reducible refine Below.alloc ?_ ?_ _ | with_reducible refine Below.setCell ?_ ?_ _ | with_reducible refine Below.setRow ?_ ?_ _ | with_reducible refine below_step (by assumption) ?_ ?_ | (show (_ : Nat) ≤ _; first | omega | (simp <;> omega))), (by first | omega | (simp <;> omega)), by (go_simp <;> (intros; omega))⟩ | ((repeat (with_reducible apply Exists.intro)); refine And.intro ?_ ?_; rotate_left; (focus ((repeat' (with_reducible apply And.intro)) <;> rfl)); exact ⟨k + 1, by omega, by go_num, by repeat' (first | with_reducible exact Below.refl _ _ | with_reducible assumption | with_reducible refine Below.drew ?_ | with_reducible refine Below.drewN ?_ _ | with_reducible refine Below.alloc ?_ ?_ _ | with_reducible refine Below.setCell ?_ ?_ _ | with_reducible refine Below.setRow ?_ ?_ _ | with_reducible refine below_step (by assumption) ?_ ?_ | (show (_ : Nat) ≤ _; first | omega | (simp <;> omega))), (by first | omega | (simp <;> omega)), by (go_simp <;> (intros; omega))⟩)
        case measure => simp [intOf]; omega
      · have h2b : (px == u) = false := by simpa using h1
        have h2c : (u == px) = false := by simpa using fun h => h1 h.symm
        clear hs h1
        go_wp2
        go_quiet (fail)
        go_wp2
        go_roundw
        case rel => first | exact ⟨k + 1, by omega, by go_num, by repeat' (first | with_reducible exact Below.refl _ _ | with_reducible assumption | with_reducible refine Below.drew ?_ | with_reducible refine Below.drewN ?_ _ | with_reducible refine Below.alloc ?_ ?_ _ | with_reducible refine Below.setCell ?_ ?_ _ | with_reducible refine Below.setRow ?_ ?_ _ | with_reducible refine below_step (by assumption) ?_ ?_ | (show (_ : Nat) ≤ _; first | omega | (simp <;> omega))), (by first | omega | (simp <;> omega)), by (go_simp <;> (intros; omega))⟩ | ((repeat (with_reducible apply Exists.intro)); refine And.intro ?_ ?_; rotate_left; (focus ((repeat' (with_reducible apply And.intro)) <;> rfl)); exact ⟨k + 1, by omega, by go_num, by repeat' (first | with_reducible exact Below.refl _ _ | with_reducible assumption | with_reducible refine Below.drew ?_ | with_reducible refine Below.drewN ?_ _ | with_reducible refine Below.alloc ?_ ?_ _ | with_reducible refine Below.setCell ?_ ?_ _ | with_reducible refine Below.setRow ?_ ?_ _ | with_reducible refine below_step (by assumption) ?_ ?_ | (show (_ : Nat) ≤ _; first | omega | (simp <;> omega))), (by first | omega | (simp <;> omega)), by (go_simp <;> (intros; omega))⟩)
        case measure => simp [intOf]; omega
@[go_sem ↓] theorem chr_110 (w : World) : (convert 5 9 (.int .u8 110)).run Tryd.prog w = .ok (.string (tx [110])) w := by kernel_rfl
@[go_sem ↓] theorem chr_101 (w : World) : (convert 5 9 (.int .u8 101)).run Tryd.prog w = .ok (.string (tx [101])) w := by kernel_rfl
@[go_sem ↓] theorem chr_115 (w : World) : (convert 5 9 (.int .u8 115)).run Tryd.prog w = .ok (.string (tx [115])) w := by kernel_rfl
@[go_sem ↓] theorem chr_119 (w : World) : (convert 5 9 (.int .u8 119)).run Tryd.prog w = .ok (.string (tx [119])) w := by kernel_rfl
theorem some_dir {x y u v : Int} (h : stepB x y u v = true) : ∃ m, m < 4 ∧ sameP (nx m x y) u v = true ∧ ∀ j, j < m → sameP (nx j x y) u v = false := by
  unfold stepB at h
  rcases Bool.eq_false_or_eq_true (sameP (nx 0 x y) u v) with h0 | h0
  · exact ⟨0, by omega, h0, fun j hj => by omega⟩
  rcases Bool.eq_false_or_eq_true (sameP (nx 1 x y) u v) with h1 | h1
  · exact ⟨1, by omega, h1, fun j hj => by obtain rfl : j = 0 := (by omega); exact h0⟩
  rcases Bool.eq_false_or_eq_true (sameP (nx 2 x y) u v) with h2 | h2
  · exact ⟨2, by omega, h2, fun j hj => by rcases (show j = 0 ∨ j = 1 by omega) with rfl | rfl; exact h0; exact h1⟩
  rcases Bool.eq_false_or_eq_true (sameP (nx 3 x y) u v) with h3 | h3
  · exact ⟨3, by omega, h3, fun j hj => by rcases (show j = 0 ∨ j = 1 ∨ j = 2 by omega) with rfl | rfl | rfl; exact h0; exact h1; exact h2⟩
  · rw [h0, h1, h2, h3] at h; cases h
open Classical in
theorem steps_to {f : Nat → Int} {n : Nat} (h : stepsB f n = true) : StepsTo f n ∧ 1 ≤ n ∧ n ≤ 80 := by
  unfold stepsB at h
  rw [Bool.and_eq_true] at h
  have := inB_true.1 h.2
  exact ⟨of_decide_eq_true h.1, by omega, by omega⟩
theorem stepsTx_dir {f : Nat → Int} {n k m : Nat} (hf : CellsTo f n) (hk : k + 1 < n) (hm : m < 4) (h : sameP (nx m (f (k * 2)) (f (k * 2 + 1))) (f ((k + 1) * 2)) (f ((k + 1) * 2 + 1)) = true) (hno : ∀ j, j < m → sameP (nx j (f (k * 2)) (f (k * 2 + 1))) (f ((k + 1) * 2)) (f ((k + 1) * 2 + 1)) = false) : stepsTx f (k + 1) = stepsTx f k ++ [dirB m] := by
  show stepsTx f k ++ dirK _ _ _ _ 4 = _
  rw [dirK_is (hf k (by omega)).1 (hf k (by omega)).2 hm h hno]
set_option maxHeartbeats 8000000 in
theorem iPathText_any (a0 : Option Addr) (cap0 : Nat) (n : Nat) (hcap : n ≤ cap0) (f : Nat → Int) (hn : n ≤ 1048576) (hf : ∀ j, j < n * 2 → -128 ≤ f j ∧ f j ≤ 127) (w : World) (h : SlA .i8 2 w (.slice a0 n cap0) n f) :
    Calls Tryd.prog 19 #[.slice a0 n cap0] w fun e w' => e = .returned (.string (tx (pTx f n))) ∧ Below w.heap.size w w' := by
  have HP := Lib.hid (fun w h => isPath_any (.slice a0 n cap0) n f hn hf w h)
  have HA := Lib.hid (fun w h => offAny_any (.slice a0 n cap0) n f hn hf w h)
  have HH := Lib.hid h
  rcases Bool.eq_false_or_eq_true (stepsB f n) with hst | hst
  case inr =>
    rw [hst] at HP
    rw [show pTx f n = [] from if_neg (by unfold toldB; rw [hst]; simp)]
    clear h hst hf
    go_enter Tryd.func19, Tryd.ntmps19
    go_wp2_with ((go_at_call 53; refine (HP.out _ (HH.out.below (by repeat' (first | with_reducible exact Below.refl _ _ | with_reducible assumption | with_reducible refine Below.drew ?_ | with_reducible refine Below.drewN ?_ _ | with_reducible refine Below.alloc ?_ ?_ _ | with_reducible refine Below.setCell ?_ ?_ _ | with_reducible refine Below.setRow ?_ ?_ _ | with_reducible refine below_step (by assumption) ?_ ?_ | (show (_ : Nat) ≤ _; first | omega | (simp <;> omega)))) (Nat.le_refl _))).mono ?_; rintro e w1 ⟨rfl, hb1⟩; have r1 := keep_rowA hb1; have f1 := keep_frA hb1; have s1 := hb1.size; (try simp only [World.size_alloc, World.size_setCell, setRow_size, World.size_drew, size_drewNm] at r1 f1 s1)))
    go_ret
    exact ⟨rfl, by repeat' (first | with_reducible exact Below.refl _ _ | with_reducible assumption | with_reducible refine Below.drew ?_ | with_reducible refine Below.drewN ?_ _ | with_reducible refine Below.alloc ?_ ?_ _ | with_reducible refine Below.setCell ?_ ?_ _ | with_reducible refine Below.setRow ?_ ?_ _ | with_reducible refine below_step (by assumption) ?_ ?_ | (show (_ : Nat) ≤ _; first | omega | (simp <;> omega)))⟩
  rw [hst] at HP
  rcases Bool.eq_false_or_eq_true (cells8 f n) with h8 | h8
  case inr =>
    rw [h8] at HA
    rw [show pTx f n = [] from if_neg (by unfold toldB; rw [h8]; simp)]
    clear h hst hf h8
    go_enter Tryd.func19, Tryd.ntmps19
    go_wp2_with (first | (go_at_call 53; refine (HP.out _ (HH.out.below (by repeat' (first | with_reducible exact Below.refl _ _ | with_reducible assumption | with_reducible refine Below.drew ?_ | with_reducible refine Below.drewN ?_ _ | with_reducible refine Below.alloc ?_ ?_ _ | with_reducible refine Below.setCell ?_ ?_ _ | with_reducible refine Below.setRow ?_ ?_ _ | with_reducible refine below_step (by assumption) ?_ ?_ | (show (_ : Nat) ≤ _; first | omega | (simp <;> omega)))) (Nat.le_refl _))).mono ?_; rintro e w1 ⟨rfl, hb1⟩; have r1 := keep_rowA hb1; have f1 := keep_frA hb1; have s1 := hb1.size; (try simp only [World.size_alloc, World.size_setCell, setRow_size, World.size_drew, size_drewNm] at r1 f1 s1)) | (go_at_call 54; refine (HA.out _ (HH.out.below (by repeat' (first | with_reducible exact Below.refl _ _ | with_reducible assumption | with_reducible refine Below.drew ?_ | with_reducible refine Below.drewN ?_ _ | with_reducible refine Below.alloc ?_ ?_ _ | with_reducible refine Below.setCell ?_ ?_ _ | with_reducible refine Below.setRow ?_ ?_ _ | with_reducible refine below_step (by assumption) ?_ ?_ | (show (_ : Nat) ≤ _; first | omega | (simp <;> omega)))) (Nat.le_refl _))).mono ?_; rintro e w1 ⟨rfl, hb1⟩; have r1 := keep_rowA hb1; have f1 := keep_frA hb1; have s1 := hb1.size; (try simp only [World.size_alloc, World.size_setCell, setRow_size, World.size_drew, size_drewNm] at r1 f1 s1)))
    go_ret
    exact ⟨rfl, by repeat' (first | with_reducible exact Below.refl _ _ | with_reducible assumption | with_reducible refine Below.drew ?_ | with_reducible refine Below.drewN ?_ _ | with_reducible refine Below.alloc ?_ ?_ _ | with_reducible refine Below.setCell ?_ ?_ _ | with_reducible refine Below.setRow ?_ ?_ _ | with_reducible refine below_step (by assumption) ?_ ?_ | (show (_ : Nat) ≤ _; first | omega | (simp <;> omega)))⟩
  rw [h8] at HA
  obtain ⟨hto, h1n, h80⟩ := steps_to hst
  have hc8 := cells8_to h8
  rw [show pTx f n = pathTx f n from if_pos (by unfold toldB; rw [hst, h8]; rfl)]
  have HST := Lib.hid hto
  have HF := Lib.hid hc8
  clear hst h8 hto hf hn HH
  obtain ⟨g, o, cap, hv, hg, hcells⟩ := h.pos (by omega)
  simp only [Value.slice.injEq] at hv
  obtain ⟨rfl, -, rfl⟩ := hv
  have HC := Lib.hid hcells
  have HH := Lib.hid h
  clear h hcells
  have b1 := HC.out 0 (by omega)
  have b2 := HC.out 1 (by omega)
  rw [Nat.add_zero] at b1
  have HHD := Lib.hid (show headTx f = [by8 (48 + f 0), 44, by8 (48 + f 1)] from rfl)
  have hxy := HF.out 0 (by omega)
  simp only [Nat.zero_mul, Nat.zero_add] at hxy
  obtain ⟨hx7, hy7⟩ := hxy
  have HPT := Lib.hid (show pathTx f n = headTx f ++ gapTx n ++ stepsTx f (n - 1) from rfl)
  generalize f 0 = x at b1 HHD hx7
  generalize f 1 = y at b2 HHD hy7
  obtain ⟨x', rfl⟩ : ∃ x' : Nat, x = x' := ⟨x.toNat, by omega⟩
  obtain ⟨y', rfl⟩ : ∃ y' : Nat, y = y' := ⟨y.toNat, by omega⟩
  have HDX := Lib.hid (fun w => decimal_d x' (by omega) w)
  have HDY := Lib.hid (fun w => decimal_d y' (by omega) w)
  have hwx : IntKind.i64.wrap (x' : Int) = (x' : Int) := IntWalk.i64_in _ (by omega)
  have hwy : IntKind.i64.wrap (y' : Int) = (y' : Int) := IntWalk.i64_in _ (by omega)
  have hn0 : ¬ n ≤ 0 := by omega
  have hn2 : 0 < n := by omega
  have hn1 : (0 : Int) < (n : Int) := by omega
  generalize by8 (48 + (x' : Int)) = bx at *
  generalize by8 (48 + (y' : Int)) = bz at *
  have hnl : n ≤ 80 := h80
  go_enter Tryd.func19, Tryd.ntmps19
  go_wp2_with (go_at_call 53; refine (HP.out _ (HH.out.below (by repeat' (first | with_reducible exact Below.refl _ _ | with_reducible assumption | with_reducible refine Below.drew ?_ | with_reducible refine Below.drewN ?_ _ | with_reducible refine Below.alloc ?_ ?_ _ | with_reducible refine Below.setCell ?_ ?_ _ | with_reducible refine Below.setRow ?_ ?_ _ | with_reducible refine below_step (by assumption) ?_ ?_ | (show (_ : Nat) ≤ _; first | omega | (simp <;> omega)))) (Nat.le_refl _))).mono ?_; rintro e wa ⟨rfl, hba⟩; have r_hba := keep_rowA hba; have f_hba := keep_frA hba; have s_hba := hba.size; (try simp only [World.size_alloc, World.size_setCell, setRow_size, World.size_drew, size_drewNm] at r_hba f_hba s_hba))
  go_wp2_with (go_at_call 54; refine (HA.out _ (HH.out.below (by repeat' (first | with_reducible exact Below.refl _ _ | with_reducible assumption | with_reducible refine Below.drew ?_ | with_reducible refine Below.drewN ?_ _ | with_reducible refine Below.alloc ?_ ?_ _ | with_reducible refine Below.setCell ?_ ?_ _ | with_reducible refine Below.setRow ?_ ?_ _ | with_reducible refine below_step (by assumption) ?_ ?_ | (show (_ : Nat) ≤ _; first | omega | (simp <;> omega)))) (Nat.le_refl _))).mono ?_; rintro e wb ⟨rfl, hbb⟩; have r_hbb := keep_rowA hbb; have f_hbb := keep_frA hbb; have s_hbb := hbb.size; (try simp only [World.size_alloc, World.size_setCell, setRow_size, World.size_drew, size_drewNm] at r_hbb f_hbb s_hbb))
  have hB : Below w.heap.size w wb := by repeat' (first | with_reducible exact Below.refl _ _ | with_reducible assumption | with_reducible refine Below.drew ?_ | with_reducible refine Below.drewN ?_ _ | with_reducible refine Below.alloc ?_ ?_ _ | with_reducible refine Below.setCell ?_ ?_ _ | with_reducible refine Below.setRow ?_ ?_ _ | with_reducible refine below_step (by assumption) ?_ ?_ | (show (_ : Nat) ≤ _; first | omega | (simp <;> omega)))
  clear hba hbb r_hba f_hba s_hba r_hbb f_hbb s_hbb
  have hszb := hB.size
  have hrb := keep_row hB hg
  rw [← hrb] at b1 b2
  clear hrb
  have hgb : g < wb.heap.size := Nat.lt_of_lt_of_le hg hszb
  go_quiet ((go_at_call 49; first | (with_reducible exact Calls.quiet_of_same (HDX.out _)) | (with_reducible exact Calls.quiet_of_same (HDY.out _))))
  clear HDX HDY b1 b2
  obtain ⟨m, rfl⟩ : ∃ m : Nat, n = m + 1 := ⟨n - 1, by omega⟩
  have hm8 : m ≤ 79 := by omega
  rw [Nat.add_sub_cancel] at HPT
  rcases m with _ | m
  case zero =>
    have HE := Lib.hid (show pathTx f (0 + 1) = [bx, 44, bz] by rw [HPT.out, HHD.out]; rfl)
    obtain ⟨c, rfl⟩ : ∃ c : Nat, cap0 = c + 1 := ⟨cap0 - 1, by omega⟩
    rcases c with _ | c
    all_goals
      go_wp2
      go_loopw [30, 3] (fun i s wr => i = .int .i64 0 ∧ s = .string (tx [bx, 44, bz]) ∧ Below w.heap.size w wr) (fun i s wr => 0)
      case atStart => exact ⟨rfl, rfl, by repeat' (first | with_reducible exact Below.refl _ _ | with_reducible assumption | with_reducible refine Below.drew ?_ | with_reducible refine Below.drewN ?_ _ | with_reducible refine Below.alloc ?_ ?_ _ | with_reducible refine Below.setCell ?_ ?_ _ | with_reducible refine Below.setRow ?_ ?_ _ | with_reducible refine below_step (by assumption) ?_ ?_ | (show (_ : Nat) ≤ _; first | omega | (simp <;> omega)))⟩
      case round =>
        obtain ⟨rfl, rfl, hb⟩ := hrel
        go_wp2
        go_ret
        exact ⟨by rw [HE.out]; rfl, by repeat' (first | with_reducible exact Below.refl _ _ | with_reducible assumption | with_reducible refine Below.drew ?_ | with_reducible refine Below.drewN ?_ _ | with_reducible refine Below.alloc ?_ ?_ _ | with_reducible refine Below.setCell ?_ ?_ _ | with_reducible refine Below.setRow ?_ ?_ _ | with_reducible refine below_step (by assumption) ?_ ?_ | (show (_ : Nat) ≤ _; first | omega | (simp <;> omega)))⟩
  obtain ⟨c, rfl⟩ : ∃ c : Nat, cap0 = c + 2 := ⟨cap0 - 2, by omega⟩
  have HG := Lib.hid (show gapTx (m + 1 + 1) = [32] from if_pos (by omega))
  go_wp2
  go_loopw [30, 3] (fun i s wr => ∃ (k : Nat) (acc : List UInt8), k ≤ m + 1 ∧ i = .int .i64 (k : Int) ∧ s = .string (tx acc) ∧ acc = (if k = 0 then [bx, 44, bz] else headTx f ++ gapTx (m + 1 + 1) ++ stepsTx f k) ∧ Below w.heap.size w wr) (fun i s wr => m + 1 - (intOf i).toNat)
  case atStart => exact ⟨0, _, by omega, rfl, rfl, rfl, by repeat' (first | with_reducible exact Below.refl _ _ | with_reducible assumption | with_reducible refine Below.drew ?_ | with_reducible refine Below.drewN ?_ _ | with_reducible refine Below.alloc ?_ ?_ _ | with_reducible refine Below.setCell ?_ ?_ _ | with_reducible refine Below.setRow ?_ ?_ _ | with_reducible refine below_step (by assumption) ?_ ?_ | (show (_ : Nat) ≤ _; first | omega | (simp <;> omega)))⟩
  case round =>
    obtain ⟨k, acc, hk, rfl, rfl, hacc, hb⟩ := hrel
    have hal : acc.length ≤ 4 * k + 4 := by rw [hacc]; split; simp; rw [HHD.out, HG.out]; have := stepsTx_len f k; simp; omega
    have hal4 : ¬ 9223372036854775807 < acc.length + 1 := by omega
    have hal5 : ¬ 9223372036854775807 < acc.length + 1 + 1 := by omega
    have hal6 : ¬ 9223372036854775807 < acc.length + 2 := by omega
    have HA := Lib.hid hacc
    clear hacc
    have hsz := hb.size
    have hgw : g < wr.heap.size := Nat.lt_of_lt_of_le hg hsz
    by_cases hlt : k < m + 1
    · have hxy := HF.out k (by omega)
      have e1 := HC.out (k * 2) (by omega)
      have e2 := HC.out (k * 2 + 1) (by omega)
      have e3 := HC.out ((k + 1) * 2) (by omega)
      have e4 := HC.out ((k + 1) * 2 + 1) (by omega)
      have hr1 := keep_row hb hg
      rw [← hr1] at e1 e2 e3 e4
      clear hr1
      have hsk := HST.out (k + 1) (by omega) (by omega)
      unfold stepAt at hsk
      rw [Nat.add_sub_cancel] at hsk
      obtain ⟨q, hq, hyes, hno⟩ := some_dir hsk
      have HNX := Lib.hid (stepsTx_dir HF.out (by omega) hq hyes hno)
      have HIX := Lib.hid (fun g w hg hr => index_which g (fun j => nx j (f (k * 2)) (f (k * 2 + 1))) (f ((k + 1) * 2)) (f ((k + 1) * 2 + 1)) q hq hyes hno w hg hr)
      have HBE := Lib.hid (fun w => beside_any (f (k * 2)) (f (k * 2 + 1)) (by omega) (by omega) w)
      clear hsk hyes hno
      generalize f (k * 2) = x1 at e1 HIX HBE hxy
      generalize f (k * 2 + 1) = y1 at e2 HIX HBE hxy
      generalize f ((k + 1) * 2) = x2 at e3 HIX
      generalize f ((k + 1) * 2 + 1) = y2 at e4 HIX
      rw [show o + (k + 1) * 2 = o + 2 + k * 2 from by omega] at e3
      rw [show o + ((k + 1) * 2 + 1) = o + 2 + k * 2 + 1 from by omega] at e4
      rw [← Nat.add_assoc] at e2
      have hm1 : ¬ m + 1 + 1 ≤ k := by omega
      have hm3 : ¬ m + 1 ≤ k := by omega
      have hm6 : (0 : Int) ≤ (k : Int) := by omega
      have hm7 : (k : Int) < ((m + 1 + 1 : Nat) : Int) := by omega
      have hm9 : (k : Int) < ((m + 1 : Nat) : Int) := by omega
      by_cases hk0 : k = 0
      · subst hk0
        have HAA := Lib.hid (show acc = [bx, 44, bz] from HA.out)
        simp only [Nat.zero_mul, Nat.add_zero] at e1 e2
        have hz1 : (0 : Int) < (m : Int) + 1 + 1 := by omega
        have hz2 : 0 < m + 1 + 1 := by omega
        have hz3 : ¬ (m : Int) + 1 + 1 ≤ 0 := by omega
        rcases (show q = 0 ∨ q = 1 ∨ q = 2 ∨ q = 3 by omega) with rfl | rfl | rfl | rfl
        all_goals
          go_wp2
          go_region_held3 (fun w' => (rowOf w' g)[o]? = some (.int .i8 x1) ∧ (rowOf w' g)[o + 1]? = some (.int .i8 y1) ∧ rowOf w' wr.heap.size = #[.int .i8 x2, .int .i8 y2]) (go_simp) (first | (go_at_call 57; refine (HBE.out _).mono ?_; rintro e w1 ⟨g1, rfl, hg1, hg2, hrow, hb1⟩; have r_hb1 := keep_rowA hb1; have f_hb1 := keep_frA hb1; have s_hb1 := hb1.size; (try simp only [World.size_alloc, World.size_setCell, setRow_size, World.size_drew, size_drewNm] at r_hb1 f_hb1 s_hb1)) | (go_at_call 56; refine (HIX.out _ _ (by first | omega | (simp <;> omega)) (fun j hj => by rcases (show j = 0 ∨ j = 1 ∨ j = 2 ∨ j = 3 by omega) with rfl | rfl | rfl | rfl <;> (rw [hrow]; exact ⟨rfl, rfl⟩))).mono ?_; rintro e w2 ⟨rfl, hb2⟩; have r_hb2 := keep_rowA hb2; have f_hb2 := keep_frA hb2; have s_hb2 := hb2.size; (try simp only [World.size_alloc, World.size_setCell, setRow_size, World.size_drew, size_drewNm] at r_hb2 f_hb2 s_hb2)))
          all_goals
            go_wp2
            go_roundw
            case rel => first | exact ⟨1, _, by omega, by go_num, rfl, by rw [if_neg (by omega), HHD.out, HG.out, HNX.out, HAA.out]; rfl, by repeat' (first | with_reducible exact Below.refl _ _ | with_reducible assumption | with_reducible refine Below.drew ?_ | with_reducible refine Below.drewN ?_ _ | with_reducible refine Below.alloc ?_ ?_ _ | with_reducible refine Below.setCell ?_ ?_ _ | with_reducible refine Below.setRow ?_ ?_ _ | with_reducible refine below_step (by assumption) ?_ ?_ | (show (_ : Nat) ≤ _; first | omega | (simp <;> omega)))⟩ | ((repeat (with_reducible apply Exists.intro)); refine And.intro ?_ ?_; rotate_left; (focus ((repeat' (with_reducible apply And.intro)) <;> rfl)); exact ⟨1, _, by omega, by go_num, rfl, by rw [if_neg (by omega), HHD.out, HG.out, HNX.out, HAA.out]; rfl, by repeat' (first | with_reducible exact Below.refl _ _ | with_reducible assumption | with_reducible refine Below.drew ?_ | with_reducible refine Below.drewN ?_ _ | with_reducible refine Below.alloc ?_ ?_ _ | with_reducible refine Below.setCell ?_ ?_ _ | with_reducible refine Below.setRow ?_ ?_ _ | with_reducible refine below_step (by assumption) ?_ ?_ | (show (_ : Nat) ≤ _; first | omega | (simp <;> omega)))⟩)
            case measure => simp [intOf]
      · have HAA := Lib.hid (show acc = headTx f ++ gapTx (m + 1 + 1) ++ stepsTx f k from HA.out.trans (if_neg hk0))
        have hkz : ¬ ((k : Int) = 0) := by omega
        have hz1 : (k : Int) < (m : Int) + 1 + 1 := by omega
        have hz2 : k < m + 1 + 1 := by omega
        have hz3 : ¬ (m : Int) + 1 + 1 ≤ (k : Int) := by omega
        have hkb : ((k : Int) == 0) = false := by simpa using hkz
        have hkd : decide ((k : Int) = 0) = false := decide_eq_false hkz
        rcases (show q = 0 ∨ q = 1 ∨ q = 2 ∨ q = 3 by omega) with rfl | rfl | rfl | rfl
        all_goals
          go_wp2
          go_region_held3 (fun w' => (rowOf w' g)[o + k * 2]? = some (.int .i8 x1) ∧ (rowOf w' g)[o + k * 2 + 1]? = some (.int .i8 y1) ∧ rowOf w' wr.heap.size = #[.int .i8 x2, .int .i8 y2]) (go_simp) (first | (go_at_call 57; refine (HBE.out _).mono ?_; rintro e w1 ⟨g1, rfl, hg1, hg2, hrow, hb1⟩; have r_hb1 := keep_rowA hb1; have f_hb1 := keep_frA hb1; have s_hb1 := hb1.size; (try simp only [World.size_alloc, World.size_setCell, setRow_size, World.size_drew, size_drewNm] at r_hb1 f_hb1 s_hb1)) | (go_at_call 56; refine (HIX.out _ _ (by first | omega | (simp <;> omega)) (fun j hj => by rcases (show j = 0 ∨ j = 1 ∨ j = 2 ∨ j = 3 by omega) with rfl | rfl | rfl | rfl <;> (rw [hrow]; exact ⟨rfl, rfl⟩))).mono ?_; rintro e w2 ⟨rfl, hb2⟩; have r_hb2 := keep_rowA hb2; have f_hb2 := keep_frA hb2; have s_hb2 := hb2.size; (try simp only [World.size_alloc, World.size_setCell, setRow_size, World.size_drew, size_drewNm] at r_hb2 f_hb2 s_hb2)))
          all_goals
            go_wp2
            go_roundw
            case rel => first | exact ⟨k + 1, _, by omega, by go_num, rfl, by rw [if_neg (by omega), HNX.out, HAA.out] <;> simp [dirB], by repeat' (first | with_reducible exact Below.refl _ _ | with_reducible assumption | with_reducible refine Below.drew ?_ | with_reducible refine Below.drewN ?_ _ | with_reducible refine Below.alloc ?_ ?_ _ | with_reducible refine Below.setCell ?_ ?_ _ | with_reducible refine Below.setRow ?_ ?_ _ | with_reducible refine below_step (by assumption) ?_ ?_ | (show (_ : Nat) ≤ _; first | omega | (simp <;> omega)))⟩ | ((repeat (with_reducible apply Exists.intro)); refine And.intro ?_ ?_; rotate_left; (focus ((repeat' (with_reducible apply And.intro)) <;> rfl)); exact ⟨k + 1, _, by omega, by go_num, rfl, by rw [if_neg (by omega), HNX.out, HAA.out] <;> simp [dirB], by repeat' (first | with_reducible exact Below.refl _ _ | with_reducible assumption | with_reducible refine Below.drew ?_ | with_reducible refine Below.drewN ?_ _ | with_reducible refine Below.alloc ?_ ?_ _ | with_reducible refine Below.setCell ?_ ?_ _ | with_reducible refine Below.setRow ?_ ?_ _ | with_reducible refine below_step (by assumption) ?_ ?_ | (show (_ : Nat) ≤ _; first | omega | (simp <;> omega)))⟩)
            case measure => simp [intOf]; omega
    · have hke : k = m + 1 := by omega
      have HE := Lib.hid (show pathTx f (m + 1 + 1) = acc by rw [HPT.out, HA.out, if_neg (by omega), hke])
      have hm9 : ¬ ((k : Int) < ((m + 1 : Nat) : Int)) := by omega
      subst hke
      go_wp2
      go_ret
      exact ⟨by rw [HE.out]; rfl, by repeat' (first | with_reducible exact Below.refl _ _ | with_reducible assumption | with_reducible refine Below.drew ?_ | with_reducible refine Below.drewN ?_ _ | with_reducible refine Below.alloc ?_ ?_ _ | with_reducible refine Below.setCell ?_ ?_ _ | with_reducible refine Below.setRow ?_ ?_ _ | with_reducible refine below_step (by assumption) ?_ ?_ | (show (_ : Nat) ≤ _; first | omega | (simp <;> omega)))⟩
set_option maxHeartbeats 2000000 in
theorem sPathText_any (v : Value) (n : Nat) (f : Nat → Int) (hn : n ≤ 1048576) (hf : ∀ j, j < n * 2 → -128 ≤ f j ∧ f j ≤ 127) (w : World) (h : SlA .i8 2 w v n f) :
    Calls Tryd.prog 17 #[v] w fun e w' => e = .returned (.string (tx (pTx f n))) ∧ Below w.heap.size w w' := by
  have HH := Lib.hid h
  have HT := Lib.hid (fun w h => l04Told_any v n f hn hf w h)
  obtain ⟨a0, cap0, rfl⟩ := h.len
  clear h
  rcases Bool.eq_false_or_eq_true (toldB f n) with hb | hb
  · rw [show pTx f n = pathTx f n from if_pos hb]
    rw [hb] at HT
    unfold toldB at hb
    rw [Bool.and_eq_true] at hb
    obtain ⟨hto, h1n, h80⟩ := steps_to hb.1
    have HX := Lib.hid (fun w h => l04Text_any (.slice a0 n cap0) n f h1n h80 (cells8_to hb.2) w h)
    clear hf hb hto
    go_enter Tryd.func17, Tryd.ntmps17
    go_wp2_with (first | (go_at_call 50; refine (HT.out _ (HH.out.below (by repeat' (first | with_reducible exact Below.refl _ _ | with_reducible assumption | with_reducible refine Below.drew ?_ | with_reducible refine Below.drewN ?_ _ | with_reducible refine Below.alloc ?_ ?_ _ | with_reducible refine Below.setCell ?_ ?_ _ | with_reducible refine Below.setRow ?_ ?_ _ | with_reducible refine below_step (by assumption) ?_ ?_ | (show (_ : Nat) ≤ _; first | omega | (simp <;> omega)))) (Nat.le_refl _))).mono ?_; rintro e w1 ⟨rfl, hb1⟩; have r1 := keep_rowA hb1; have f1 := keep_frA hb1; have s1 := hb1.size; (try simp only [World.size_alloc, World.size_setCell, setRow_size, World.size_drew, size_drewNm] at r1 f1 s1)) | (go_at_call 51; refine (HX.out _ (HH.out.below (by repeat' (first | with_reducible exact Below.refl _ _ | with_reducible assumption | with_reducible refine Below.drew ?_ | with_reducible refine Below.drewN ?_ _ | with_reducible refine Below.alloc ?_ ?_ _ | with_reducible refine Below.setCell ?_ ?_ _ | with_reducible refine Below.setRow ?_ ?_ _ | with_reducible refine below_step (by assumption) ?_ ?_ | (show (_ : Nat) ≤ _; first | omega | (simp <;> omega)))) (Nat.le_refl _))).mono ?_; rintro e w1 ⟨rfl, hb1⟩; have r1 := keep_rowA hb1; have f1 := keep_frA hb1; have s1 := hb1.size; (try simp only [World.size_alloc, World.size_setCell, setRow_size, World.size_drew, size_drewNm] at r1 f1 s1)))
    go_ret
    exact ⟨rfl, by repeat' (first | with_reducible exact Below.refl _ _ | with_reducible assumption | with_reducible refine Below.drew ?_ | with_reducible refine Below.drewN ?_ _ | with_reducible refine Below.alloc ?_ ?_ _ | with_reducible refine Below.setCell ?_ ?_ _ | with_reducible refine Below.setRow ?_ ?_ _ | with_reducible refine below_step (by assumption) ?_ ?_ | (show (_ : Nat) ≤ _; first | omega | (simp <;> omega)))⟩
  · rw [show pTx f n = [] from if_neg (by simp [hb])]
    rw [hb] at HT
    clear hf hb
    go_enter Tryd.func17, Tryd.ntmps17
    go_wp2_with ((go_at_call 50; refine (HT.out _ (HH.out.below (by repeat' (first | with_reducible exact Below.refl _ _ | with_reducible assumption | with_reducible refine Below.drew ?_ | with_reducible refine Below.drewN ?_ _ | with_reducible refine Below.alloc ?_ ?_ _ | with_reducible refine Below.setCell ?_ ?_ _ | with_reducible refine Below.setRow ?_ ?_ _ | with_reducible refine below_step (by assumption) ?_ ?_ | (show (_ : Nat) ≤ _; first | omega | (simp <;> omega)))) (Nat.le_refl _))).mono ?_; rintro e w1 ⟨rfl, hb1⟩; have r1 := keep_rowA hb1; have f1 := keep_frA hb1; have s1 := hb1.size; (try simp only [World.size_alloc, World.size_setCell, setRow_size, World.size_drew, size_drewNm] at r1 f1 s1)))
    go_ret
    exact ⟨rfl, by repeat' (first | with_reducible exact Below.refl _ _ | with_reducible assumption | with_reducible refine Below.drew ?_ | with_reducible refine Below.drewN ?_ _ | with_reducible refine Below.alloc ?_ ?_ _ | with_reducible refine Below.setCell ?_ ?_ _ | with_reducible refine Below.setRow ?_ ?_ _ | with_reducible refine below_step (by assumption) ?_ ?_ | (show (_ : Nat) ≤ _; first | omega | (simp <;> omega)))⟩
end Go.Proofs.YtbnhhjjhjjmmjaaDoor
