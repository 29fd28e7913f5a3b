/- The text of a mark: the program and the reference. -/
import Derived.Test.YtbnhhjjhjjmmjaaDoorTxt
import Derived.Test.YtbnhhjjhjjmmjaaDoorSpotS
import Derived.BigQuiet
import Derived.Deep.QuietTactic
namespace Go.Proofs.YtbnhhjjhjjmmjaaDoor
open Go.RowKit
set_option linter.unusedVariables false
set_option linter.unusedSimpArgs false
set_option maxRecDepth 100000
/-- The bytes of so many cells. -/
def cellsTx (f : Nat → Int) : Nat → List UInt8
  | 0 => []
  | k + 1 => cellsTx f k ++ ([32] ++ [by8 (48 + f (k * 2))] ++ [44] ++ [by8 (48 + f (k * 2 + 1))])
theorem cellsTx_len (f : Nat → Int) : ∀ k, (cellsTx f k).length = 4 * k
  | 0 => rfl
  | k + 1 => by
    have := cellsTx_len f k
    show (cellsTx f k ++ _).length = _
    rw [List.length_append, this]; simp; omega
def CellsTo (f : Nat → Int) (k : Nat) : Prop := ∀ i, i < k → (0 ≤ f (i * 2) ∧ f (i * 2) ≤ 7) ∧ 0 ≤ f (i * 2 + 1) ∧ f (i * 2 + 1) ≤ 7
open Classical in
noncomputable def cells8 (f : Nat → Int) (n : Nat) : Bool := decide (CellsTo f n)
open Classical in
theorem cells8_yes {f : Nat → Int} {n : Nat} (h : CellsTo f n) : cells8 f n = true := decide_eq_true h
open Classical in
theorem cells8_no {f : Nat → Int} {n k : Nat} (hk : k < n) (h : ¬ ((0 ≤ f (k * 2) ∧ f (k * 2) ≤ 7) ∧ 0 ≤ f (k * 2 + 1) ∧ f (k * 2 + 1) ≤ 7)) : cells8 f n = false := decide_eq_false (fun g => h (g k hk))
open Classical in
theorem cells8_to {f : Nat → Int} {n : Nat} (h : cells8 f n = true) : CellsTo f n := by unfold cells8 at h; exact of_decide_eq_true h
theorem cells8_next {f : Nat → Int} {k : Nat} (h : CellsTo f k) (g : (0 ≤ f (k * 2) ∧ f (k * 2) ≤ 7) ∧ 0 ≤ f (k * 2 + 1) ∧ f (k * 2 + 1) ≤ 7) : CellsTo f (k + 1) := fun i h1 => by
  rcases Nat.lt_succ_iff_lt_or_eq.1 h1 with h2 | rfl
  · exact h i h2
  · exact g
noncomputable def markB (col : Int) (f : Nat → Int) (n : Nat) : Bool := inB col 0 2 && inB (n : Int) 1 64 && cells8 f n
noncomputable def markTx (col : Int) (f : Nat → Int) (n : Nat) : List UInt8 := if markB col f n = true then [by8 (97 + col)] ++ cellsTx f n else []
theorem markTx_no {col : Int} {f : Nat → Int} {n : Nat} (h : markB col f n = false) : markTx col f n = [] := if_neg (by simp [h])
theorem markTx_yes {col : Int} {f : Nat → Int} {n : Nat} (h : markB col f n = true) : markTx col f n = [by8 (97 + col)] ++ cellsTx f n := if_pos h
theorem three {a : Int} (h : inB a 0 2 = true) : a = 0 ∨ a = 1 ∨ a = 2 := by have := inB_true.1 h; omega
@[go_sem] theorem tc_abc (i : Int) (w : World) : (Instr.index 9 (.string (ByteArray.mk #[97, 98, 99])) (.int .i8 i)).run Tryd.prog w = (Instr.index 9 (.string (tx [97, 98, 99])) (.int .i8 i)).run Tryd.prog w := rfl
theorem by_97 : by8 (97 + 0) = 97 := by decide
theorem by_98 : by8 (97 + 1) = 98 := by decide
theorem by_99 : by8 (97 + 2) = 99 := by decide
theorem decimal_q (i : Nat) (hi : i < 100) (w : World) : Calls Tryd.prog 49 #[.int .i64 i] w fun e w' => e = .returned (.string (tx (Lib.decDigits i))) ∧ w' = w := (decimal_any i hi w).mono fun _ _ h => ⟨h.1, h.2.symm⟩
theorem decimal_d (i : Nat) (hi : i < 10) (w : World) : Calls Tryd.prog 49 #[.int .i64 i] w fun e w' => e = .returned (.string (tx [by8 (48 + (i : Int))])) ∧ w' = w := by rw [← dec_one hi]; exact decimal_q i (by omega) w
theorem size_spotsM (v : Value) (n : Nat) (f : Nat → Int) (w : World) (h : SlA .i8 2 w v n f) : Calls Tryd.prog 48 #[v] w fun e w' => e = .returned (.int .i64 (n : Int)) ∧ w = w' := by
  obtain ⟨a, cap, rfl⟩ := h.len
  clear h
  go_enter Tryd.func48, Tryd.ntmps48
  go_wp2
  go_ret
  exact ⟨rfl, rfl⟩
set_option maxHeartbeats 8000000 in
theorem iMarkText_any (col : Int) (hcol : -128 ≤ col ∧ col ≤ 127) (v : Value) (n : Nat) (f : Nat → Int) (hn : n ≤ 1048576) (hf : ∀ j, j < n * 2 → -128 ≤ f j ∧ f j ≤ 127) (w : World) (h : SlA .i8 2 w v n f) :
    Calls Tryd.prog 14 #[.agg #[.int .i8 col, v]] w fun e w' => e = .returned (.string (tx (markTx col f n))) ∧ Below w.heap.size w w' := by
  have HH := Lib.hid h
  have HF := Lib.hid hf
  obtain ⟨a0, cap0, rfl⟩ := h.len
  have HSZ := Lib.hid (fun w2 h => size_spotsM (.slice a0 n cap0) n f w2 h)
  clear h hf
  rcases Bool.eq_false_or_eq_true (inB col 0 2) with hc | hc
  case inr =>
    have HC := Lib.hid (fun w => hc ▸ within_any col 0 2 w)
    rw [markTx_no (by unfold markB; rw [hc]; rfl)]
    clear hc
    go_enter Tryd.func14, Tryd.ntmps14
    go_wp2_with ((go_at_call 47; refine (HC.out _).mono ?_; rintro e w1 ⟨rfl, rfl⟩))
    go_ret
    exact ⟨rfl, by repeat' (first | with_reducible exact Below.refl _ _ | with_reducible assumption | with_reducible refine Below.drew ?_ | with_reducible refine Below.drewN ?_ _ | with_reducible refine Below.alloc ?_ ?_ _ | with_reducible refine Below.setCell ?_ ?_ _ | with_reducible refine Below.setRow ?_ ?_ _ | with_reducible refine below_step (by assumption) ?_ ?_ | (show (_ : Nat) ≤ _; first | omega | (simp <;> omega)))⟩
  have HC := Lib.hid (fun w => hc ▸ within_any col 0 2 w)
  rcases Bool.eq_false_or_eq_true (inB (n : Int) 1 64) with hm | hm
  case inr =>
    have HM := Lib.hid (fun w => hm ▸ within_any (n : Int) 1 64 w)
    rw [markTx_no (by unfold markB; rw [hm, Bool.and_false]; rfl)]
    clear hc hm
    go_enter Tryd.func14, Tryd.ntmps14
    go_wp2_with (first | (go_at_call 47; (with_reducible refine (HC.out _).mono ?_); rintro e w1 ⟨rfl, rfl⟩) | (go_at_call 47; (with_reducible refine (HM.out _).mono ?_); rintro e w1 ⟨rfl, rfl⟩) | (go_at_call 48; refine (HSZ.out _ (HH.out.below (by repeat' (first | with_reducible exact Below.refl _ _ | with_reducible assumption | with_reducible refine Below.drew ?_ | with_reducible refine Below.drewN ?_ _ | with_reducible refine Below.alloc ?_ ?_ _ | with_reducible refine Below.setCell ?_ ?_ _ | with_reducible refine Below.setRow ?_ ?_ _ | with_reducible refine below_step (by assumption) ?_ ?_ | (show (_ : Nat) ≤ _; first | omega | (simp <;> omega)))) (Nat.le_refl _))).mono ?_; rintro e w1 ⟨rfl, rfl⟩))
    go_ret
    exact ⟨rfl, by repeat' (first | with_reducible exact Below.refl _ _ | with_reducible assumption | with_reducible refine Below.drew ?_ | with_reducible refine Below.drewN ?_ _ | with_reducible refine Below.alloc ?_ ?_ _ | with_reducible refine Below.setCell ?_ ?_ _ | with_reducible refine Below.setRow ?_ ?_ _ | with_reducible refine below_step (by assumption) ?_ ?_ | (show (_ : Nat) ≤ _; first | omega | (simp <;> omega)))⟩
  have HM := Lib.hid (fun w => hm ▸ within_any (n : Int) 1 64 w)
  obtain ⟨n1, n64⟩ := inB_true.1 hm
  have HV := Lib.hid (show markB col f n = cells8 f n from by unfold markB; rw [hc, hm]; rfl)
  have h3 := three hc
  clear hm
  rcases h3 with rfl | rfl | rfl
  case inl =>
    clear hc
    go_enter Tryd.func14, Tryd.ntmps14
    go_wp2_with (first | (go_at_call 47; (with_reducible refine (HC.out _).mono ?_); rintro e w1 ⟨rfl, rfl⟩) | (go_at_call 47; (with_reducible refine (HM.out _).mono ?_); rintro e w1 ⟨rfl, rfl⟩) | (go_at_call 48; refine (HSZ.out _ (HH.out.below (by repeat' (first | with_reducible exact Below.refl _ _ | with_reducible assumption | with_reducible refine Below.drew ?_ | with_reducible refine Below.drewN ?_ _ | with_reducible refine Below.alloc ?_ ?_ _ | with_reducible refine Below.setCell ?_ ?_ _ | with_reducible refine Below.setRow ?_ ?_ _ | with_reducible refine below_step (by assumption) ?_ ?_ | (show (_ : Nat) ≤ _; first | omega | (simp <;> omega)))) (Nat.le_refl _))).mono ?_; rintro e w1 ⟨rfl, rfl⟩))
    go_loopw [25, 3] (fun i s wr => ∃ (k : Nat) (acc : List UInt8), k ≤ n ∧ i = .int .i64 k ∧ s = .string (tx acc) ∧ acc = [by8 (97 + 0)] ++ cellsTx f k ∧ CellsTo f k ∧ Below w.heap.size w wr) (fun i s wr => n - (intOf i).toNat)
    case atStart => exact ⟨0, _, by omega, rfl, by kernel_rfl, rfl, fun i hi => absurd hi (by omega), by repeat' (first | with_reducible exact Below.refl _ _ | with_reducible assumption | with_reducible refine Below.drew ?_ | with_reducible refine Below.drewN ?_ _ | with_reducible refine Below.alloc ?_ ?_ _ | with_reducible refine Below.setCell ?_ ?_ _ | with_reducible refine Below.setRow ?_ ?_ _ | with_reducible refine below_step (by assumption) ?_ ?_ | (show (_ : Nat) ≤ _; first | omega | (simp <;> omega)))⟩
    case round =>
      obtain ⟨k, acc, hk, rfl, rfl, hacc, hto, hb⟩ := hrel
      have hal : acc.length ≤ 4 * k + 1 := by rw [hacc, List.length_append, cellsTx_len]; simp; omega
      have HA := Lib.hid hacc
      have HT := Lib.hid hto
      clear hacc hto
      have hsz := hb.size
      by_cases hlt : k < n
      · obtain ⟨g, o, cap', hv, hg, hcells⟩ := HH.out.pos (by omega)
        simp only [Value.slice.injEq] at hv
        obtain ⟨rfl, -, rfl⟩ := hv
        have hr1 := keep_row hb hg
        have hw1 : g < wr.heap.size := Nat.lt_of_lt_of_le hg hsz
        have e1 := hcells (k * 2) (by omega)
        have e2 := hcells (k * 2 + 1) (by omega)
        rw [← hr1] at e1 e2
        rw [← Nat.add_assoc] at e2
        have hx := HF.out (k * 2) (by omega)
        have hy := HF.out (k * 2 + 1) (by omega)
        have HNX := Lib.hid (show cellsTx f (k + 1) = cellsTx f k ++ ([32] ++ [by8 (48 + f (k * 2))] ++ [44] ++ [by8 (48 + f (k * 2 + 1))]) from rfl)
        have HN8 := Lib.hid (fun h => cells8_next (k := k) HT.out h)
        have HNO := Lib.hid (fun h => (markTx_no (HV.out.trans (cells8_no (f := f) hlt h))))
        clear hcells hr1
        generalize f (k * 2) = x at *
        generalize f (k * 2 + 1) = y at *
        rcases Bool.eq_false_or_eq_true (inB x 0 7) with h1 | h1
        case inr =>
          have HX := Lib.hid (fun w => h1 ▸ within_any x 0 7 w)
          have HE := Lib.hid (HNO.out (fun h => by have := (inB_false.1 h1); omega))
          clear h1
          go_wp2_with (go_at_call 47; (with_reducible refine (HX.out _).mono ?_); rintro e w1 ⟨rfl, rfl⟩)
          go_ret
          exact ⟨by rw [HE.out]; rfl, by repeat' (first | with_reducible exact Below.refl _ _ | with_reducible assumption | with_reducible refine Below.drew ?_ | with_reducible refine Below.drewN ?_ _ | with_reducible refine Below.alloc ?_ ?_ _ | with_reducible refine Below.setCell ?_ ?_ _ | with_reducible refine Below.setRow ?_ ?_ _ | with_reducible refine below_step (by assumption) ?_ ?_ | (show (_ : Nat) ≤ _; first | omega | (simp <;> omega)))⟩
        rcases Bool.eq_false_or_eq_true (inB y 0 7) with h2 | h2
        case inr =>
          have HX := Lib.hid (fun w => h1 ▸ within_any x 0 7 w)
          have HY := Lib.hid (fun w => h2 ▸ within_any y 0 7 w)
          have HE := Lib.hid (HNO.out (fun h => by have := (inB_false.1 h2); omega))
          clear h1 h2
          go_wp2_with (first | (go_at_call 47; (with_reducible refine (HX.out _).mono ?_); rintro e w1 ⟨rfl, rfl⟩) | (go_at_call 47; (with_reducible refine (HY.out _).mono ?_); rintro e w1 ⟨rfl, rfl⟩))
          go_ret
          exact ⟨by rw [HE.out]; rfl, by repeat' (first | with_reducible exact Below.refl _ _ | with_reducible assumption | with_reducible refine Below.drew ?_ | with_reducible refine Below.drewN ?_ _ | with_reducible refine Below.alloc ?_ ?_ _ | with_reducible refine Below.setCell ?_ ?_ _ | with_reducible refine Below.setRow ?_ ?_ _ | with_reducible refine below_step (by assumption) ?_ ?_ | (show (_ : Nat) ≤ _; first | omega | (simp <;> omega)))⟩
        have hx7 := inB_true.1 h1
        have hy7 := inB_true.1 h2
        obtain ⟨x', rfl⟩ : ∃ x' : Nat, x = x' := ⟨x.toNat, by omega⟩
        obtain ⟨y', rfl⟩ : ∃ y' : Nat, y = y' := ⟨y.toNat, by omega⟩
        have HX := Lib.hid (fun w => h1 ▸ within_any (x' : Int) 0 7 w)
        have HY := Lib.hid (fun w => h2 ▸ within_any (y' : Int) 0 7 w)
        have HDX := Lib.hid (fun w => decimal_d x' (by omega) w)
        have HDY := Lib.hid (fun w => decimal_d y' (by omega) w)
        clear h1 h2
        go_wp2_with (first | (go_at_call 47; (with_reducible refine (HX.out _).mono ?_); rintro e w1 ⟨rfl, rfl⟩) | (go_at_call 47; (with_reducible refine (HY.out _).mono ?_); rintro e w1 ⟨rfl, rfl⟩))
        have hwx : IntKind.i64.wrap (x' : Int) = (x' : Int) := IntWalk.i64_in _ (by omega)
        have hwy : IntKind.i64.wrap (y' : Int) = (y' : Int) := IntWalk.i64_in _ (by omega)
        generalize by8 (48 + (x' : Int)) = bx at *
        generalize by8 (48 + (y' : Int)) = bz at *
        go_quiet ((go_at_call 49; first | (with_reducible exact Calls.quiet_of_same (HDX.out _)) | (with_reducible exact Calls.quiet_of_same (HDY.out _))))
        go_wp2
        go_roundw
        case rel => first | exact ⟨k + 1, _, by omega, by go_num, rfl, by rw [HA.out, HNX.out]; simp, HN8.out ⟨hx7, hy7⟩, by repeat' (first | with_reducible exact Below.refl _ _ | with_reducible assumption | with_reducible refine Below.drew ?_ | with_reducible refine Below.drewN ?_ _ | with_reducible refine Below.alloc ?_ ?_ _ | with_reducible refine Below.setCell ?_ ?_ _ | with_reducible refine Below.setRow ?_ ?_ _ | with_reducible refine below_step (by assumption) ?_ ?_ | (show (_ : Nat) ≤ _; first | omega | (simp <;> omega)))⟩ | ((repeat (with_reducible apply Exists.intro)); refine And.intro ?_ ?_; rotate_left; (focus ((repeat' (with_reducible apply And.intro)) <;> rfl)); exact ⟨k + 1, _, by omega, by go_num, rfl, by rw [HA.out, HNX.out]; simp, HN8.out ⟨hx7, hy7⟩, by repeat' (first | with_reducible exact Below.refl _ _ | with_reducible assumption | with_reducible refine Below.drew ?_ | with_reducible refine Below.drewN ?_ _ | with_reducible refine Below.alloc ?_ ?_ _ | with_reducible refine Below.setCell ?_ ?_ _ | with_reducible refine Below.setRow ?_ ?_ _ | with_reducible refine below_step (by assumption) ?_ ?_ | (show (_ : Nat) ≤ _; first | omega | (simp <;> omega)))⟩)
        case measure => simp [intOf]; omega
      · have hke : k = n := by omega
        subst hke
        have HE := Lib.hid (show markTx 0 f k = acc by rw [markTx_yes (HV.out.trans (cells8_yes HT.out)), HA.out])
        go_wp2
        go_ret
        exact ⟨by rw [HE.out]; rfl, by repeat' (first | with_reducible exact Below.refl _ _ | with_reducible assumption | with_reducible refine Below.drew ?_ | with_reducible refine Below.drewN ?_ _ | with_reducible refine Below.alloc ?_ ?_ _ | with_reducible refine Below.setCell ?_ ?_ _ | with_reducible refine Below.setRow ?_ ?_ _ | with_reducible refine below_step (by assumption) ?_ ?_ | (show (_ : Nat) ≤ _; first | omega | (simp <;> omega)))⟩
  case inr.inl =>
    clear hc
    go_enter Tryd.func14, Tryd.ntmps14
    go_wp2_with (first | (go_at_call 47; (with_reducible refine (HC.out _).mono ?_); rintro e w1 ⟨rfl, rfl⟩) | (go_at_call 47; (with_reducible refine (HM.out _).mono ?_); rintro e w1 ⟨rfl, rfl⟩) | (go_at_call 48; refine (HSZ.out _ (HH.out.below (by repeat' (first | with_reducible exact Below.refl _ _ | with_reducible assumption | with_reducible refine Below.drew ?_ | with_reducible refine Below.drewN ?_ _ | with_reducible refine Below.alloc ?_ ?_ _ | with_reducible refine Below.setCell ?_ ?_ _ | with_reducible refine Below.setRow ?_ ?_ _ | with_reducible refine below_step (by assumption) ?_ ?_ | (show (_ : Nat) ≤ _; first | omega | (simp <;> omega)))) (Nat.le_refl _))).mono ?_; rintro e w1 ⟨rfl, rfl⟩))
    go_loopw [25, 3] (fun i s wr => ∃ (k : Nat) (acc : List UInt8), k ≤ n ∧ i = .int .i64 k ∧ s = .string (tx acc) ∧ acc = [by8 (97 + 1)] ++ cellsTx f k ∧ CellsTo f k ∧ Below w.heap.size w wr) (fun i s wr => n - (intOf i).toNat)
    case atStart => exact ⟨0, _, by omega, rfl, by kernel_rfl, rfl, fun i hi => absurd hi (by omega), by repeat' (first | with_reducible exact Below.refl _ _ | with_reducible assumption | with_reducible refine Below.drew ?_ | with_reducible refine Below.drewN ?_ _ | with_reducible refine Below.alloc ?_ ?_ _ | with_reducible refine Below.setCell ?_ ?_ _ | with_reducible refine Below.setRow ?_ ?_ _ | with_reducible refine below_step (by assumption) ?_ ?_ | (show (_ : Nat) ≤ _; first | omega | (simp <;> omega)))⟩
    case round =>
      obtain ⟨k, acc, hk, rfl, rfl, hacc, hto, hb⟩ := hrel
      have hal : acc.length ≤ 4 * k + 1 := by rw [hacc, List.length_append, cellsTx_len]; simp; omega
      have HA := Lib.hid hacc
      have HT := Lib.hid hto
      clear hacc hto
      have hsz := hb.size
      by_cases hlt : k < n
      · obtain ⟨g, o, cap', hv, hg, hcells⟩ := HH.out.pos (by omega)
        simp only [Value.slice.injEq] at hv
        obtain ⟨rfl, -, rfl⟩ := hv
        have hr1 := keep_row hb hg
        have hw1 : g < wr.heap.size := Nat.lt_of_lt_of_le hg hsz
        have e1 := hcells (k * 2) (by omega)
        have e2 := hcells (k * 2 + 1) (by omega)
        rw [← hr1] at e1 e2
        rw [← Nat.add_assoc] at e2
        have hx := HF.out (k * 2) (by omega)
        have hy := HF.out (k * 2 + 1) (by omega)
        have HNX := Lib.hid (show cellsTx f (k + 1) = cellsTx f k ++ ([32] ++ [by8 (48 + f (k * 2))] ++ [44] ++ [by8 (48 + f (k * 2 + 1))]) from rfl)
        have HN8 := Lib.hid (fun h => cells8_next (k := k) HT.out h)
        have HNO := Lib.hid (fun h => (markTx_no (HV.out.trans (cells8_no (f := f) hlt h))))
        clear hcells hr1
        generalize f (k * 2) = x at *
        generalize f (k * 2 + 1) = y at *
        rcases Bool.eq_false_or_eq_true (inB x 0 7) with h1 | h1
        case inr =>
          have HX := Lib.hid (fun w => h1 ▸ within_any x 0 7 w)
          have HE := Lib.hid (HNO.out (fun h => by have := (inB_false.1 h1); omega))
          clear h1
          go_wp2_with (go_at_call 47; (with_reducible refine (HX.out _).mono ?_); rintro e w1 ⟨rfl, rfl⟩)
          go_ret
          exact ⟨by rw [HE.out]; rfl, by repeat' (first | with_reducible exact Below.refl _ _ | with_reducible assumption | with_reducible refine Below.drew ?_ | with_reducible refine Below.drewN ?_ _ | with_reducible refine Below.alloc ?_ ?_ _ | with_reducible refine Below.setCell ?_ ?_ _ | with_reducible refine Below.setRow ?_ ?_ _ | with_reducible refine below_step (by assumption) ?_ ?_ | (show (_ : Nat) ≤ _; first | omega | (simp <;> omega)))⟩
        rcases Bool.eq_false_or_eq_true (inB y 0 7) with h2 | h2
        case inr =>
          have HX := Lib.hid (fun w => h1 ▸ within_any x 0 7 w)
          have HY := Lib.hid (fun w => h2 ▸ within_any y 0 7 w)
          have HE := Lib.hid (HNO.out (fun h => by have := (inB_false.1 h2); omega))
          clear h1 h2
          go_wp2_with (first | (go_at_call 47; (with_reducible refine (HX.out _).mono ?_); rintro e w1 ⟨rfl, rfl⟩) | (go_at_call 47; (with_reducible refine (HY.out _).mono ?_); rintro e w1 ⟨rfl, rfl⟩))
          go_ret
          exact ⟨by rw [HE.out]; rfl, by repeat' (first | with_reducible exact Below.refl _ _ | with_reducible assumption | with_reducible refine Below.drew ?_ | with_reducible refine Below.drewN ?_ _ | with_reducible refine Below.alloc ?_ ?_ _ | with_reducible refine Below.setCell ?_ ?_ _ | with_reducible refine Below.setRow ?_ ?_ _ | with_reducible refine below_step (by assumption) ?_ ?_ | (show (_ : Nat) ≤ _; first | omega | (simp <;> omega)))⟩
        have hx7 := inB_true.1 h1
        have hy7 := inB_true.1 h2
        obtain ⟨x', rfl⟩ : ∃ x' : Nat, x = x' := ⟨x.toNat, by omega⟩
        obtain ⟨y', rfl⟩ : ∃ y' : Nat, y = y' := ⟨y.toNat, by omega⟩
        have HX := Lib.hid (fun w => h1 ▸ within_any (x' : Int) 0 7 w)
        have HY := Lib.hid (fun w => h2 ▸ within_any (y' : Int) 0 7 w)
        have HDX := Lib.hid (fun w => decimal_d x' (by omega) w)
        have HDY := Lib.hid (fun w => decimal_d y' (by omega) w)
        clear h1 h2
        go_wp2_with (first | (go_at_call 47; (with_reducible refine (HX.out _).mono ?_); rintro e w1 ⟨rfl, rfl⟩) | (go_at_call 47; (with_reducible refine (HY.out _).mono ?_); rintro e w1 ⟨rfl, rfl⟩))
        have hwx : IntKind.i64.wrap (x' : Int) = (x' : Int) := IntWalk.i64_in _ (by omega)
        have hwy : IntKind.i64.wrap (y' : Int) = (y' : Int) := IntWalk.i64_in _ (by omega)
        generalize by8 (48 + (x' : Int)) = bx at *
        generalize by8 (48 + (y' : Int)) = bz at *
        go_quiet ((go_at_call 49; first | (with_reducible exact Calls.quiet_of_same (HDX.out _)) | (with_reducible exact Calls.quiet_of_same (HDY.out _))))
        go_wp2
        go_roundw
        case rel => first | exact ⟨k + 1, _, by omega, by go_num, rfl, by rw [HA.out, HNX.out]; simp, HN8.out ⟨hx7, hy7⟩, by repeat' (first | with_reducible exact Below.refl _ _ | with_reducible assumption | with_reducible refine Below.drew ?_ | with_reducible refine Below.drewN ?_ _ | with_reducible refine Below.alloc ?_ ?_ _ | with_reducible refine Below.setCell ?_ ?_ _ | with_reducible refine Below.setRow ?_ ?_ _ | with_reducible refine below_step (by assumption) ?_ ?_ | (show (_ : Nat) ≤ _; first | omega | (simp <;> omega)))⟩ | ((repeat (with_reducible apply Exists.intro)); refine And.intro ?_ ?_; rotate_left; (focus ((repeat' (with_reducible apply And.intro)) <;> rfl)); exact ⟨k + 1, _, by omega, by go_num, rfl, by rw [HA.out, HNX.out]; simp, HN8.out ⟨hx7, hy7⟩, by repeat' (first | with_reducible exact Below.refl _ _ | with_reducible assumption | with_reducible refine Below.drew ?_ | with_reducible refine Below.drewN ?_ _ | with_reducible refine Below.alloc ?_ ?_ _ | with_reducible refine Below.setCell ?_ ?_ _ | with_reducible refine Below.setRow ?_ ?_ _ | with_reducible refine below_step (by assumption) ?_ ?_ | (show (_ : Nat) ≤ _; first | omega | (simp <;> omega)))⟩)
        case measure => simp [intOf]; omega
      · have hke : k = n := by omega
        subst hke
        have HE := Lib.hid (show markTx 1 f k = acc by rw [markTx_yes (HV.out.trans (cells8_yes HT.out)), HA.out])
        go_wp2
        go_ret
        exact ⟨by rw [HE.out]; rfl, by repeat' (first | with_reducible exact Below.refl _ _ | with_reducible assumption | with_reducible refine Below.drew ?_ | with_reducible refine Below.drewN ?_ _ | with_reducible refine Below.alloc ?_ ?_ _ | with_reducible refine Below.setCell ?_ ?_ _ | with_reducible refine Below.setRow ?_ ?_ _ | with_reducible refine below_step (by assumption) ?_ ?_ | (show (_ : Nat) ≤ _; first | omega | (simp <;> omega)))⟩
  case inr.inr =>
    clear hc
    go_enter Tryd.func14, Tryd.ntmps14
    go_wp2_with (first | (go_at_call 47; (with_reducible refine (HC.out _).mono ?_); rintro e w1 ⟨rfl, rfl⟩) | (go_at_call 47; (with_reducible refine (HM.out _).mono ?_); rintro e w1 ⟨rfl, rfl⟩) | (go_at_call 48; refine (HSZ.out _ (HH.out.below (by repeat' (first | with_reducible exact Below.refl _ _ | with_reducible assumption | with_reducible refine Below.drew ?_ | with_reducible refine Below.drewN ?_ _ | with_reducible refine Below.alloc ?_ ?_ _ | with_reducible refine Below.setCell ?_ ?_ _ | with_reducible refine Below.setRow ?_ ?_ _ | with_reducible refine below_step (by assumption) ?_ ?_ | (show (_ : Nat) ≤ _; first | omega | (simp <;> omega)))) (Nat.le_refl _))).mono ?_; rintro e w1 ⟨rfl, rfl⟩))
    go_loopw [25, 3] (fun i s wr => ∃ (k : Nat) (acc : List UInt8), k ≤ n ∧ i = .int .i64 k ∧ s = .string (tx acc) ∧ acc = [by8 (97 + 2)] ++ cellsTx f k ∧ CellsTo f k ∧ Below w.heap.size w wr) (fun i s wr => n - (intOf i).toNat)
    case atStart => exact ⟨0, _, by omega, rfl, by kernel_rfl, rfl, fun i hi => absurd hi (by omega), by repeat' (first | with_reducible exact Below.refl _ _ | with_reducible assumption | with_reducible refine Below.drew ?_ | with_reducible refine Below.drewN ?_ _ | with_reducible refine Below.alloc ?_ ?_ _ | with_reducible refine Below.setCell ?_ ?_ _ | with_reducible refine Below.setRow ?_ ?_ _ | with_reducible refine below_step (by assumption) ?_ ?_ | (show (_ : Nat) ≤ _; first | omega | (simp <;> omega)))⟩
    case round =>
      obtain ⟨k, acc, hk, rfl, rfl, hacc, hto, hb⟩ := hrel
      have hal : acc.length ≤ 4 * k + 1 := by rw [hacc, List.length_append, cellsTx_len]; simp; omega
      have HA := Lib.hid hacc
      have HT := Lib.hid hto
      clear hacc hto
      have hsz := hb.size
      by_cases hlt : k < n
      · obtain ⟨g, o, cap', hv, hg, hcells⟩ := HH.out.pos (by omega)
        simp only [Value.slice.injEq] at hv
        obtain ⟨rfl, -, rfl⟩ := hv
        have hr1 := keep_row hb hg
        have hw1 : g < wr.heap.size := Nat.lt_of_lt_of_le hg hsz
        have e1 := hcells (k * 2) (by omega)
        have e2 := hcells (k * 2 + 1) (by omega)
        rw [← hr1] at e1 e2
        rw [← Nat.add_assoc] at e2
        have hx := HF.out (k * 2) (by omega)
        have hy := HF.out (k * 2 + 1) (by omega)
        have HNX := Lib.hid (show cellsTx f (k + 1) = cellsTx f k ++ ([32] ++ [by8 (48 + f (k * 2))] ++ [44] ++ [by8 (48 + f (k * 2 + 1))]) from rfl)
        have HN8 := Lib.hid (fun h => cells8_next (k := k) HT.out h)
        have HNO := Lib.hid (fun h => (markTx_no (HV.out.trans (cells8_no (f := f) hlt h))))
        clear hcells hr1
        generalize f (k * 2) = x at *
        generalize f (k * 2 + 1) = y at *
        rcases Bool.eq_false_or_eq_true (inB x 0 7) with h1 | h1
        case inr =>
          have HX := Lib.hid (fun w => h1 ▸ within_any x 0 7 w)
          have HE := Lib.hid (HNO.out (fun h => by have := (inB_false.1 h1); omega))
          clear h1
          go_wp2_with (go_at_call 47; (with_reducible refine (HX.out _).mono ?_); rintro e w1 ⟨rfl, rfl⟩)
          go_ret
          exact ⟨by rw [HE.out]; rfl, by repeat' (first | with_reducible exact Below.refl _ _ | with_reducible assumption | with_reducible refine Below.drew ?_ | with_reducible refine Below.drewN ?_ _ | with_reducible refine Below.alloc ?_ ?_ _ | with_reducible refine Below.setCell ?_ ?_ _ | with_reducible refine Below.setRow ?_ ?_ _ | with_reducible refine below_step (by assumption) ?_ ?_ | (show (_ : Nat) ≤ _; first | omega | (simp <;> omega)))⟩
        rcases Bool.eq_false_or_eq_true (inB y 0 7) with h2 | h2
        case inr =>
          have HX := Lib.hid (fun w => h1 ▸ within_any x 0 7 w)
          have HY := Lib.hid (fun w => h2 ▸ within_any y 0 7 w)
          have HE := Lib.hid (HNO.out (fun h => by have := (inB_false.1 h2); omega))
          clear h1 h2
          go_wp2_with (first | (go_at_call 47; (with_reducible refine (HX.out _).mono ?_); rintro e w1 ⟨rfl, rfl⟩) | (go_at_call 47; (with_reducible refine (HY.out _).mono ?_); rintro e w1 ⟨rfl, rfl⟩))
          go_ret
          exact ⟨by rw [HE.out]; rfl, by repeat' (first | with_reducible exact Below.refl _ _ | with_reducible assumption | with_reducible refine Below.drew ?_ | with_reducible refine Below.drewN ?_ _ | with_reducible refine Below.alloc ?_ ?_ _ | with_reducible refine Below.setCell ?_ ?_ _ | with_reducible refine Below.setRow ?_ ?_ _ | with_reducible refine below_step (by assumption) ?_ ?_ | (show (_ : Nat) ≤ _; first | omega | (simp <;> omega)))⟩
        have hx7 := inB_true.1 h1
        have hy7 := inB_true.1 h2
        obtain ⟨x', rfl⟩ : ∃ x' : Nat, x = x' := ⟨x.toNat, by omega⟩
        obtain ⟨y', rfl⟩ : ∃ y' : Nat, y = y' := ⟨y.toNat, by omega⟩
        have HX := Lib.hid (fun w => h1 ▸ within_any (x' : Int) 0 7 w)
        have HY := Lib.hid (fun w => h2 ▸ within_any (y' : Int) 0 7 w)
        have HDX := Lib.hid (fun w => decimal_d x' (by omega) w)
        have HDY := Lib.hid (fun w => decimal_d y' (by omega) w)
        clear h1 h2
        go_wp2_with (first | (go_at_call 47; (with_reducible refine (HX.out _).mono ?_); rintro e w1 ⟨rfl, rfl⟩) | (go_at_call 47; (with_reducible refine (HY.out _).mono ?_); rintro e w1 ⟨rfl, rfl⟩))
        have hwx : IntKind.i64.wrap (x' : Int) = (x' : Int) := IntWalk.i64_in _ (by omega)
        have hwy : IntKind.i64.wrap (y' : Int) = (y' : Int) := IntWalk.i64_in _ (by omega)
        generalize by8 (48 + (x' : Int)) = bx at *
        generalize by8 (48 + (y' : Int)) = bz at *
        go_quiet ((go_at_call 49; first | (with_reducible exact Calls.quiet_of_same (HDX.out _)) | (with_reducible exact Calls.quiet_of_same (HDY.out _))))
        go_wp2
        go_roundw
        case rel => first | exact ⟨k + 1, _, by omega, by go_num, rfl, by rw [HA.out, HNX.out]; simp, HN8.out ⟨hx7, hy7⟩, by repeat' (first | with_reducible exact Below.refl _ _ | with_reducible assumption | with_reducible refine Below.drew ?_ | with_reducible refine Below.drewN ?_ _ | with_reducible refine Below.alloc ?_ ?_ _ | with_reducible refine Below.setCell ?_ ?_ _ | with_reducible refine Below.setRow ?_ ?_ _ | with_reducible refine below_step (by assumption) ?_ ?_ | (show (_ : Nat) ≤ _; first | omega | (simp <;> omega)))⟩ | ((repeat (with_reducible apply Exists.intro)); refine And.intro ?_ ?_; rotate_left; (focus ((repeat' (with_reducible apply And.intro)) <;> rfl)); exact ⟨k + 1, _, by omega, by go_num, rfl, by rw [HA.out, HNX.out]; simp, HN8.out ⟨hx7, hy7⟩, by repeat' (first | with_reducible exact Below.refl _ _ | with_reducible assumption | with_reducible refine Below.drew ?_ | with_reducible refine Below.drewN ?_ _ | with_reducible refine Below.alloc ?_ ?_ _ | with_reducible refine Below.setCell ?_ ?_ _ | with_reducible refine Below.setRow ?_ ?_ _ | with_reducible refine below_step (by assumption) ?_ ?_ | (show (_ : Nat) ≤ _; first | omega | (simp <;> omega)))⟩)
        case measure => simp [intOf]; omega
      · have hke : k = n := by omega
        subst hke
        have HE := Lib.hid (show markTx 2 f k = acc by rw [markTx_yes (HV.out.trans (cells8_yes HT.out)), HA.out])
        go_wp2
        go_ret
        exact ⟨by rw [HE.out]; rfl, by repeat' (first | with_reducible exact Below.refl _ _ | with_reducible assumption | with_reducible refine Below.drew ?_ | with_reducible refine Below.drewN ?_ _ | with_reducible refine Below.alloc ?_ ?_ _ | with_reducible refine Below.setCell ?_ ?_ _ | with_reducible refine Below.setRow ?_ ?_ _ | with_reducible refine below_step (by assumption) ?_ ?_ | (show (_ : Nat) ≤ _; first | omega | (simp <;> omega)))⟩
end Go.Proofs.YtbnhhjjhjjmmjaaDoor
