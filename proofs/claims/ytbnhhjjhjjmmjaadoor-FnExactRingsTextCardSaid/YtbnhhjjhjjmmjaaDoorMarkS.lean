/- The text of a mark: the reference. -/
import Derived.Test.YtbnhhjjhjjmmjaaDoorMark
import Derived.Deep.RegionHeld3
namespace Go.Proofs.YtbnhhjjhjjmmjaaDoor
open Go.RowKit
set_option linter.unusedVariables false
set_option linter.unusedSimpArgs false
set_option maxRecDepth 100000
theorem markB_bad {col : Int} {f : Nat → Int} {n k : Nat} (hk : k < n) (h : ¬ ((0 ≤ f (k * 2) ∧ f (k * 2) ≤ 7) ∧ 0 ≤ f (k * 2 + 1) ∧ f (k * 2 + 1) ≤ 7)) : markB col f n = false := by unfold markB; rw [cells8_no hk h, Bool.and_false]
theorem markB_good {col : Int} {f : Nat → Int} {n : Nat} (h : CellsTo f n) : markB col f n = (inB col 0 2 && inB (n : Int) 1 64) := by unfold markB; rw [cells8_yes h, Bool.and_true]
set_option maxHeartbeats 4000000 in
theorem l06Told_any (m : Nat) (col : Int) (hcol : -128 ≤ col ∧ col ≤ 127) (v : Value) (n : Nat) (f : Nat → Int) (hn : n ≤ 1048576) (hf : ∀ j, j < n * 2 → -128 ≤ f j ∧ f j ≤ 127) (w : World) (h : SlA .i8 2 w v n f) (hm : rowOf w m = #[.int .i8 col, v]) (hml : m < w.heap.size) :
    Calls Tryd.prog 45 #[.pointer (some ⟨m, 0, none⟩)] w fun e w' => e = .returned (.bool (markB col f n)) ∧ Below w.heap.size w w' := by
  have HH := Lib.hid h
  have HF := Lib.hid hf
  obtain ⟨a0, cap0, rfl⟩ := h.len
  clear h hf
  go_enter Tryd.func45, Tryd.ntmps45
  go_wp2
  go_loopw [3] (fun i wr => ∃ k : Nat, k ≤ n ∧ i = .int .i64 k ∧ Below w.heap.size w wr ∧ CellsTo f k) (fun i wr => n + 1 - (intOf i).toNat)
  case atStart => exact ⟨0, by omega, rfl, by repeat' (first | with_reducible exact Below.refl _ _ | with_reducible assumption | with_reducible refine Below.drew ?_ | with_reducible refine Below.drewN ?_ _ | with_reducible refine Below.alloc ?_ ?_ _ | with_reducible refine Below.setCell ?_ ?_ _ | with_reducible refine Below.setRow ?_ ?_ _ | with_reducible refine below_step (by assumption) ?_ ?_ | (show (_ : Nat) ≤ _; first | omega | (simp <;> omega))), fun i h1 => by omega⟩
  case round =>
    obtain ⟨k, hk1, rfl, hb, hto⟩ := hrel
    have hsz := hb.size
    have HT := Lib.hid hto
    clear hto
    have hrm := keep_row hb hml
    rw [hm] at hrm
    have hmw : m < wr.heap.size := Nat.lt_of_lt_of_le hml hsz
    by_cases hlt : k < n
    · obtain ⟨g, o, cap', hv, hg, hcells⟩ := HH.out.pos (by omega)
      simp only [Value.slice.injEq] at hv
      obtain ⟨rfl, -, rfl⟩ := hv
      have hr1 := keep_row hb hg
      have hw1 : g < wr.heap.size := Nat.lt_of_lt_of_le hg hsz
      have hx := HF.out (k * 2) (by omega)
      have hy := HF.out (k * 2 + 1) (by omega)
      have e1 := hcells (k * 2) (by omega)
      have e2 := hcells (k * 2 + 1) (by omega)
      rw [← hr1] at e1 e2
      rw [← Nat.add_assoc] at e2
      have HN8 := Lib.hid (fun h => cells8_next (k := k) HT.out h)
      have HNO := Lib.hid (fun h => markB_bad (col := col) (f := f) hlt h)
      clear hcells hr1
      generalize f (k * 2) = x at *
      generalize f (k * 2 + 1) = y at *
      have hwx : IntKind.i64.wrap x = x := IntWalk.i64_in _ (by omega)
      have hwy : IntKind.i64.wrap y = y := IntWalk.i64_in _ (by omega)
      rcases Bool.eq_false_or_eq_true (inB x 0 7) with h1 | h1
      case inr =>
        have HX := Lib.hid (fun w => h1 ▸ l00In_any x 0 7 w)
        have HE := Lib.hid (HNO.out (fun h => by have := (inB_false.1 h1); omega))
        clear h1
        go_wp2_with (go_at_call 81; (with_reducible refine (HX.out _).mono ?_); rintro e w1 ⟨rfl, rfl⟩)
        go_ret
        exact ⟨by rw [HE.out]; rfl, by repeat' (first | with_reducible exact Below.refl _ _ | with_reducible assumption | with_reducible refine Below.drew ?_ | with_reducible refine Below.drewN ?_ _ | with_reducible refine Below.alloc ?_ ?_ _ | with_reducible refine Below.setCell ?_ ?_ _ | with_reducible refine Below.setRow ?_ ?_ _ | with_reducible refine below_step (by assumption) ?_ ?_ | (show (_ : Nat) ≤ _; first | omega | (simp <;> omega)))⟩
      rcases Bool.eq_false_or_eq_true (inB y 0 7) with h2 | h2
      case inr =>
        have HX := Lib.hid (fun w => h1 ▸ l00In_any x 0 7 w)
        have HY := Lib.hid (fun w => h2 ▸ l00In_any y 0 7 w)
        have HE := Lib.hid (HNO.out (fun h => by have := (inB_false.1 h2); omega))
        clear h1 h2
        go_wp2_with (first | (go_at_call 81; (with_reducible refine (HX.out _).mono ?_); rintro e w1 ⟨rfl, rfl⟩) | (go_at_call 81; (with_reducible refine (HY.out _).mono ?_); rintro e w1 ⟨rfl, rfl⟩))
        go_ret
        exact ⟨by rw [HE.out]; rfl, by repeat' (first | with_reducible exact Below.refl _ _ | with_reducible assumption | with_reducible refine Below.drew ?_ | with_reducible refine Below.drewN ?_ _ | with_reducible refine Below.alloc ?_ ?_ _ | with_reducible refine Below.setCell ?_ ?_ _ | with_reducible refine Below.setRow ?_ ?_ _ | with_reducible refine below_step (by assumption) ?_ ?_ | (show (_ : Nat) ≤ _; first | omega | (simp <;> omega)))⟩
      have hx7 := inB_true.1 h1
      have hy7 := inB_true.1 h2
      have HX := Lib.hid (fun w => h1 ▸ l00In_any x 0 7 w)
      have HY := Lib.hid (fun w => h2 ▸ l00In_any y 0 7 w)
      clear h1 h2
      go_wp2_with (first | (go_at_call 81; (with_reducible refine (HX.out _).mono ?_); rintro e w1 ⟨rfl, rfl⟩) | (go_at_call 81; (with_reducible refine (HY.out _).mono ?_); rintro e w1 ⟨rfl, rfl⟩))
      go_roundw
      case rel => first | exact ⟨k + 1, by omega, by go_num, by repeat' (first | with_reducible exact Below.refl _ _ | with_reducible assumption | with_reducible refine Below.drew ?_ | with_reducible refine Below.drewN ?_ _ | with_reducible refine Below.alloc ?_ ?_ _ | with_reducible refine Below.setCell ?_ ?_ _ | with_reducible refine Below.setRow ?_ ?_ _ | with_reducible refine below_step (by assumption) ?_ ?_ | (show (_ : Nat) ≤ _; first | omega | (simp <;> omega))), HN8.out ⟨hx7, hy7⟩⟩ | ((repeat (with_reducible apply Exists.intro)); refine And.intro ?_ ?_; rotate_left; (focus ((repeat' (with_reducible apply And.intro)) <;> rfl)); exact ⟨k + 1, by omega, by go_num, by repeat' (first | with_reducible exact Below.refl _ _ | with_reducible assumption | with_reducible refine Below.drew ?_ | with_reducible refine Below.drewN ?_ _ | with_reducible refine Below.alloc ?_ ?_ _ | with_reducible refine Below.setCell ?_ ?_ _ | with_reducible refine Below.setRow ?_ ?_ _ | with_reducible refine below_step (by assumption) ?_ ?_ | (show (_ : Nat) ≤ _; first | omega | (simp <;> omega))), HN8.out ⟨hx7, hy7⟩⟩)
      case measure => simp [intOf]; omega
    · have hke : k = n := by omega
      subst hke
      have HE := Lib.hid (markB_good (col := col) HT.out)
      have hwc : IntKind.i64.wrap col = col := IntWalk.i64_in _ (by omega)
      rcases Bool.eq_false_or_eq_true (inB col 0 2) with h1 | h1
      · have HX := Lib.hid (fun w => h1 ▸ l00In_any col 0 2 w)
        rw [h1, Bool.true_and] at HE
        clear h1
        go_wp2_with (first | (go_at_call 81; (with_reducible refine (HX.out _).mono ?_); rintro e w1 ⟨rfl, rfl⟩) | (go_at_call 81; (with_reducible refine (l00In_any _ _ _ _).mono ?_); rintro e w1 ⟨rfl, rfl⟩))
        go_ret
        exact ⟨by rw [HE.out]; rfl, by repeat' (first | with_reducible exact Below.refl _ _ | with_reducible assumption | with_reducible refine Below.drew ?_ | with_reducible refine Below.drewN ?_ _ | with_reducible refine Below.alloc ?_ ?_ _ | with_reducible refine Below.setCell ?_ ?_ _ | with_reducible refine Below.setRow ?_ ?_ _ | with_reducible refine below_step (by assumption) ?_ ?_ | (show (_ : Nat) ≤ _; first | omega | (simp <;> omega)))⟩
      · have HX := Lib.hid (fun w => h1 ▸ l00In_any col 0 2 w)
        rw [h1, Bool.false_and] at HE
        clear h1
        go_wp2_with (first | (go_at_call 81; (with_reducible refine (HX.out _).mono ?_); rintro e w1 ⟨rfl, rfl⟩))
        go_ret
        exact ⟨by rw [HE.out]; rfl, by repeat' (first | with_reducible exact Below.refl _ _ | with_reducible assumption | with_reducible refine Below.drew ?_ | with_reducible refine Below.drewN ?_ _ | with_reducible refine Below.alloc ?_ ?_ _ | with_reducible refine Below.setCell ?_ ?_ _ | with_reducible refine Below.setRow ?_ ?_ _ | with_reducible refine below_step (by assumption) ?_ ?_ | (show (_ : Nat) ≤ _; first | omega | (simp <;> omega)))⟩
@[go_sem] theorem abc_0 (h : 0 < (ByteArray.mk #[97, 98, 99]).size) : (ByteArray.mk #[97, 98, 99])[0]'h = 97 := rfl
@[go_sem] theorem abc_1 (h : 1 < (ByteArray.mk #[97, 98, 99]).size) : (ByteArray.mk #[97, 98, 99])[1]'h = 98 := rfl
@[go_sem] theorem abc_2 (h : 2 < (ByteArray.mk #[97, 98, 99]).size) : (ByteArray.mk #[97, 98, 99])[2]'h = 99 := rfl
theorem sDecimal_d (i : Nat) (hi : i < 10) (w : World) : Calls Tryd.prog 90 #[.int .i64 i] w fun e w' => e = .returned (.string (tx [by8 (48 + (i : Int))])) ∧ Below w.heap.size w w' := by rw [← dec_one hi]; exact sDecimal_one i hi w
set_option maxHeartbeats 8000000 in
theorem l06Text_any (m : Nat) (col : Int) (hcol : 0 ≤ col ∧ col ≤ 2) (v : Value) (n : Nat) (f : Nat → Int) (hn : n ≤ 64) (hf : CellsTo f n) (w : World) (h : SlA .i8 2 w v n f) (hm : rowOf w m = #[.int .i8 col, v]) (hml : m < w.heap.size) :
    Calls Tryd.prog 46 #[.pointer (some ⟨m, 0, none⟩)] w fun e w' => e = .returned (.string (tx ([by8 (97 + col)] ++ cellsTx f n))) ∧ Below w.heap.size w w' := by
  have HH := Lib.hid h
  have HF := Lib.hid hf
  obtain ⟨a0, cap0, rfl⟩ := h.len
  clear h hf
  have h3 : col = 0 ∨ col = 1 ∨ col = 2 := by omega
  rcases h3 with rfl | rfl | rfl
  case inl =>
    go_enter Tryd.func46, Tryd.ntmps46
    go_wp2
    go_loopw [4, 3] (fun i s wr => ∃ (k : Nat) (acc : List UInt8), k ≤ n ∧ i = .int .i64 k ∧ s = .string (tx acc) ∧ acc = [by8 (97 + 0)] ++ cellsTx f k ∧ Below w.heap.size w wr) (fun i s wr => n + 1 - (intOf i).toNat)
    case atStart => exact ⟨0, _, by omega, rfl, by kernel_rfl, rfl, by repeat' (first | with_reducible exact Below.refl _ _ | with_reducible assumption | with_reducible refine Below.drew ?_ | with_reducible refine Below.drewN ?_ _ | with_reducible refine Below.alloc ?_ ?_ _ | with_reducible refine Below.setCell ?_ ?_ _ | with_reducible refine Below.setRow ?_ ?_ _ | with_reducible refine below_step (by assumption) ?_ ?_ | (show (_ : Nat) ≤ _; first | omega | (simp <;> omega)))⟩
    case round =>
      obtain ⟨k, acc, hk, rfl, rfl, hacc, hb⟩ := hrel
      have hal : acc.length ≤ 4 * k + 1 := by rw [hacc, List.length_append, cellsTx_len]; simp; omega
      have hal2 : ¬ (9223372036854775807 < acc.length + 4) := by omega
      have hal3 : acc.length + 4 ≤ 9223372036854775807 := by omega
      have HA := Lib.hid hacc
      clear hacc
      have hsz := hb.size
      have hrm := keep_row hb hml
      rw [hm] at hrm
      have hmw : m < wr.heap.size := Nat.lt_of_lt_of_le hml hsz
      by_cases hlt : k < n
      · obtain ⟨g, o, cap', hv, hg, hcells⟩ := HH.out.pos (by omega)
        simp only [Value.slice.injEq] at hv
        obtain ⟨rfl, -, rfl⟩ := hv
        have hr1 := keep_row hb hg
        have hw1 : g < wr.heap.size := Nat.lt_of_lt_of_le hg hsz
        have hxy := HF.out k hlt
        have e1 := hcells (k * 2) (by omega)
        have e2 := hcells (k * 2 + 1) (by omega)
        rw [← hr1] at e1 e2
        rw [← Nat.add_assoc] at e2
        have HNX := Lib.hid (show cellsTx f (k + 1) = cellsTx f k ++ ([32] ++ [by8 (48 + f (k * 2))] ++ [44] ++ [by8 (48 + f (k * 2 + 1))]) from rfl)
        clear hcells hr1
        generalize f (k * 2) = x at *
        generalize f (k * 2 + 1) = y at *
        obtain ⟨hx7, hy7⟩ := hxy
        obtain ⟨x', rfl⟩ : ∃ x' : Nat, x = x' := ⟨x.toNat, by omega⟩
        obtain ⟨y', rfl⟩ : ∃ y' : Nat, y = y' := ⟨y.toNat, by omega⟩
        have HDX := Lib.hid (fun w => sDecimal_d x' (by omega) w)
        have HDY := Lib.hid (fun w => sDecimal_d y' (by omega) w)
        have hwx : IntKind.i64.wrap (x' : Int) = (x' : Int) := IntWalk.i64_in _ (by omega)
        have hwy : IntKind.i64.wrap (y' : Int) = (y' : Int) := IntWalk.i64_in _ (by omega)
        generalize by8 (48 + (x' : Int)) = bx at *
        generalize by8 (48 + (y' : Int)) = bz at *
        go_wp2
        go_region_held3 (fun w' => rowOf w' m = #[.int .i8 0, .slice (some ⟨g, o, none⟩) n cap0] ∧ (rowOf w' g)[o + k * 2]? = some (.int .i8 x') ∧ (rowOf w' g)[o + k * 2 + 1]? = some (.int .i8 y')) (go_simp) (first | (go_at_call 90; with_reducible refine (HDX.out _).mono ?_; rintro e w1 ⟨rfl, hb1⟩; have r1 := keep_rowA hb1; have f1 := keep_frA hb1; have s1 := hb1.size; (try simp only [World.size_alloc, World.size_setCell, setRow_size, World.size_drew, size_drewNm] at r1 f1 s1)) | (go_at_call 90; with_reducible refine (HDY.out _).mono ?_; rintro e w1 ⟨rfl, hb1⟩; have r1 := keep_rowA hb1; have f1 := keep_frA hb1; have s1 := hb1.size; (try simp only [World.size_alloc, World.size_setCell, setRow_size, World.size_drew, size_drewNm] at r1 f1 s1)))
        all_goals
          go_wp2
          go_roundw
          case rel => first | exact ⟨k + 1, _, by omega, by go_num, rfl, by rw [HA.out, HNX.out] <;> simp, by repeat' (first | with_reducible exact Below.refl _ _ | with_reducible assumption | with_reducible refine Below.drew ?_ | with_reducible refine Below.drewN ?_ _ | with_reducible refine Below.alloc ?_ ?_ _ | with_reducible refine Below.setCell ?_ ?_ _ | with_reducible refine Below.setRow ?_ ?_ _ | with_reducible refine below_step (by assumption) ?_ ?_ | (show (_ : Nat) ≤ _; first | omega | (simp <;> omega)))⟩ | ((repeat (with_reducible apply Exists.intro)); refine And.intro ?_ ?_; rotate_left; (focus ((repeat' (with_reducible apply And.intro)) <;> rfl)); exact ⟨k + 1, _, by omega, by go_num, rfl, by rw [HA.out, HNX.out] <;> simp, by repeat' (first | with_reducible exact Below.refl _ _ | with_reducible assumption | with_reducible refine Below.drew ?_ | with_reducible refine Below.drewN ?_ _ | with_reducible refine Below.alloc ?_ ?_ _ | with_reducible refine Below.setCell ?_ ?_ _ | with_reducible refine Below.setRow ?_ ?_ _ | with_reducible refine below_step (by assumption) ?_ ?_ | (show (_ : Nat) ≤ _; first | omega | (simp <;> omega)))⟩)
          case measure => simp [intOf] <;> omega
      · have hke : k = n := by omega
        subst hke
        have HE := Lib.hid HA.out
        go_wp2
        go_ret
        exact ⟨by rw [HE.out]; rfl, by repeat' (first | with_reducible exact Below.refl _ _ | with_reducible assumption | with_reducible refine Below.drew ?_ | with_reducible refine Below.drewN ?_ _ | with_reducible refine Below.alloc ?_ ?_ _ | with_reducible refine Below.setCell ?_ ?_ _ | with_reducible refine Below.setRow ?_ ?_ _ | with_reducible refine below_step (by assumption) ?_ ?_ | (show (_ : Nat) ≤ _; first | omega | (simp <;> omega)))⟩
  case inr.inl =>
    go_enter Tryd.func46, Tryd.ntmps46
    go_wp2
    go_loopw [4, 3] (fun i s wr => ∃ (k : Nat) (acc : List UInt8), k ≤ n ∧ i = .int .i64 k ∧ s = .string (tx acc) ∧ acc = [by8 (97 + 1)] ++ cellsTx f k ∧ Below w.heap.size w wr) (fun i s wr => n + 1 - (intOf i).toNat)
    case atStart => exact ⟨0, _, by omega, rfl, by kernel_rfl, rfl, by repeat' (first | with_reducible exact Below.refl _ _ | with_reducible assumption | with_reducible refine Below.drew ?_ | with_reducible refine Below.drewN ?_ _ | with_reducible refine Below.alloc ?_ ?_ _ | with_reducible refine Below.setCell ?_ ?_ _ | with_reducible refine Below.setRow ?_ ?_ _ | with_reducible refine below_step (by assumption) ?_ ?_ | (show (_ : Nat) ≤ _; first | omega | (simp <;> omega)))⟩
    case round =>
      obtain ⟨k, acc, hk, rfl, rfl, hacc, hb⟩ := hrel
      have hal : acc.length ≤ 4 * k + 1 := by rw [hacc, List.length_append, cellsTx_len]; simp; omega
      have hal2 : ¬ (9223372036854775807 < acc.length + 4) := by omega
      have hal3 : acc.length + 4 ≤ 9223372036854775807 := by omega
      have HA := Lib.hid hacc
      clear hacc
      have hsz := hb.size
      have hrm := keep_row hb hml
      rw [hm] at hrm
      have hmw : m < wr.heap.size := Nat.lt_of_lt_of_le hml hsz
      by_cases hlt : k < n
      · obtain ⟨g, o, cap', hv, hg, hcells⟩ := HH.out.pos (by omega)
        simp only [Value.slice.injEq] at hv
        obtain ⟨rfl, -, rfl⟩ := hv
        have hr1 := keep_row hb hg
        have hw1 : g < wr.heap.size := Nat.lt_of_lt_of_le hg hsz
        have hxy := HF.out k hlt
        have e1 := hcells (k * 2) (by omega)
        have e2 := hcells (k * 2 + 1) (by omega)
        rw [← hr1] at e1 e2
        rw [← Nat.add_assoc] at e2
        have HNX := Lib.hid (show cellsTx f (k + 1) = cellsTx f k ++ ([32] ++ [by8 (48 + f (k * 2))] ++ [44] ++ [by8 (48 + f (k * 2 + 1))]) from rfl)
        clear hcells hr1
        generalize f (k * 2) = x at *
        generalize f (k * 2 + 1) = y at *
        obtain ⟨hx7, hy7⟩ := hxy
        obtain ⟨x', rfl⟩ : ∃ x' : Nat, x = x' := ⟨x.toNat, by omega⟩
        obtain ⟨y', rfl⟩ : ∃ y' : Nat, y = y' := ⟨y.toNat, by omega⟩
        have HDX := Lib.hid (fun w => sDecimal_d x' (by omega) w)
        have HDY := Lib.hid (fun w => sDecimal_d y' (by omega) w)
        have hwx : IntKind.i64.wrap (x' : Int) = (x' : Int) := IntWalk.i64_in _ (by omega)
        have hwy : IntKind.i64.wrap (y' : Int) = (y' : Int) := IntWalk.i64_in _ (by omega)
        generalize by8 (48 + (x' : Int)) = bx at *
        generalize by8 (48 + (y' : Int)) = bz at *
        go_wp2
        go_region_held3 (fun w' => rowOf w' m = #[.int .i8 1, .slice (some ⟨g, o, none⟩) n cap0] ∧ (rowOf w' g)[o + k * 2]? = some (.int .i8 x') ∧ (rowOf w' g)[o + k * 2 + 1]? = some (.int .i8 y')) (go_simp) (first | (go_at_call 90; with_reducible refine (HDX.out _).mono ?_; rintro e w1 ⟨rfl, hb1⟩; have r1 := keep_rowA hb1; have f1 := keep_frA hb1; have s1 := hb1.size; (try simp only [World.size_alloc, World.size_setCell, setRow_size, World.size_drew, size_drewNm] at r1 f1 s1)) | (go_at_call 90; with_reducible refine (HDY.out _).mono ?_; rintro e w1 ⟨rfl, hb1⟩; have r1 := keep_rowA hb1; have f1 := keep_frA hb1; have s1 := hb1.size; (try simp only [World.size_alloc, World.size_setCell, setRow_size, World.size_drew, size_drewNm] at r1 f1 s1)))
        all_goals
          go_wp2
          go_roundw
          case rel => first | exact ⟨k + 1, _, by omega, by go_num, rfl, by rw [HA.out, HNX.out] <;> simp, by repeat' (first | with_reducible exact Below.refl _ _ | with_reducible assumption | with_reducible refine Below.drew ?_ | with_reducible refine Below.drewN ?_ _ | with_reducible refine Below.alloc ?_ ?_ _ | with_reducible refine Below.setCell ?_ ?_ _ | with_reducible refine Below.setRow ?_ ?_ _ | with_reducible refine below_step (by assumption) ?_ ?_ | (show (_ : Nat) ≤ _; first | omega | (simp <;> omega)))⟩ | ((repeat (with_reducible apply Exists.intro)); refine And.intro ?_ ?_; rotate_left; (focus ((repeat' (with_reducible apply And.intro)) <;> rfl)); exact ⟨k + 1, _, by omega, by go_num, rfl, by rw [HA.out, HNX.out] <;> simp, by repeat' (first | with_reducible exact Below.refl _ _ | with_reducible assumption | with_reducible refine Below.drew ?_ | with_reducible refine Below.drewN ?_ _ | with_reducible refine Below.alloc ?_ ?_ _ | with_reducible refine Below.setCell ?_ ?_ _ | with_reducible refine Below.setRow ?_ ?_ _ | with_reducible refine below_step (by assumption) ?_ ?_ | (show (_ : Nat) ≤ _; first | omega | (simp <;> omega)))⟩)
          case measure => simp [intOf] <;> omega
      · have hke : k = n := by omega
        subst hke
        have HE := Lib.hid HA.out
        go_wp2
        go_ret
        exact ⟨by rw [HE.out]; rfl, by repeat' (first | with_reducible exact Below.refl _ _ | with_reducible assumption | with_reducible refine Below.drew ?_ | with_reducible refine Below.drewN ?_ _ | with_reducible refine Below.alloc ?_ ?_ _ | with_reducible refine Below.setCell ?_ ?_ _ | with_reducible refine Below.setRow ?_ ?_ _ | with_reducible refine below_step (by assumption) ?_ ?_ | (show (_ : Nat) ≤ _; first | omega | (simp <;> omega)))⟩
  case inr.inr =>
    go_enter Tryd.func46, Tryd.ntmps46
    go_wp2
    go_loopw [4, 3] (fun i s wr => ∃ (k : Nat) (acc : List UInt8), k ≤ n ∧ i = .int .i64 k ∧ s = .string (tx acc) ∧ acc = [by8 (97 + 2)] ++ cellsTx f k ∧ Below w.heap.size w wr) (fun i s wr => n + 1 - (intOf i).toNat)
    case atStart => exact ⟨0, _, by omega, rfl, by kernel_rfl, rfl, by repeat' (first | with_reducible exact Below.refl _ _ | with_reducible assumption | with_reducible refine Below.drew ?_ | with_reducible refine Below.drewN ?_ _ | with_reducible refine Below.alloc ?_ ?_ _ | with_reducible refine Below.setCell ?_ ?_ _ | with_reducible refine Below.setRow ?_ ?_ _ | with_reducible refine below_step (by assumption) ?_ ?_ | (show (_ : Nat) ≤ _; first | omega | (simp <;> omega)))⟩
    case round =>
      obtain ⟨k, acc, hk, rfl, rfl, hacc, hb⟩ := hrel
      have hal : acc.length ≤ 4 * k + 1 := by rw [hacc, List.length_append, cellsTx_len]; simp; omega
      have hal2 : ¬ (9223372036854775807 < acc.length + 4) := by omega
      have hal3 : acc.length + 4 ≤ 9223372036854775807 := by omega
      have HA := Lib.hid hacc
      clear hacc
      have hsz := hb.size
      have hrm := keep_row hb hml
      rw [hm] at hrm
      have hmw : m < wr.heap.size := Nat.lt_of_lt_of_le hml hsz
      by_cases hlt : k < n
      · obtain ⟨g, o, cap', hv, hg, hcells⟩ := HH.out.pos (by omega)
        simp only [Value.slice.injEq] at hv
        obtain ⟨rfl, -, rfl⟩ := hv
        have hr1 := keep_row hb hg
        have hw1 : g < wr.heap.size := Nat.lt_of_lt_of_le hg hsz
        have hxy := HF.out k hlt
        have e1 := hcells (k * 2) (by omega)
        have e2 := hcells (k * 2 + 1) (by omega)
        rw [← hr1] at e1 e2
        rw [← Nat.add_assoc] at e2
        have HNX := Lib.hid (show cellsTx f (k + 1) = cellsTx f k ++ ([32] ++ [by8 (48 + f (k * 2))] ++ [44] ++ [by8 (48 + f (k * 2 + 1))]) from rfl)
        clear hcells hr1
        generalize f (k * 2) = x at *
        generalize f (k * 2 + 1) = y at *
        obtain ⟨hx7, hy7⟩ := hxy
        obtain ⟨x', rfl⟩ : ∃ x' : Nat, x = x' := ⟨x.toNat, by omega⟩
        obtain ⟨y', rfl⟩ : ∃ y' : Nat, y = y' := ⟨y.toNat, by omega⟩
        have HDX := Lib.hid (fun w => sDecimal_d x' (by omega) w)
        have HDY := Lib.hid (fun w => sDecimal_d y' (by omega) w)
        have hwx : IntKind.i64.wrap (x' : Int) = (x' : Int) := IntWalk.i64_in _ (by omega)
        have hwy : IntKind.i64.wrap (y' : Int) = (y' : Int) := IntWalk.i64_in _ (by omega)
        generalize by8 (48 + (x' : Int)) = bx at *
        generalize by8 (48 + (y' : Int)) = bz at *
        go_wp2
        go_region_held3 (fun w' => rowOf w' m = #[.int .i8 2, .slice (some ⟨g, o, none⟩) n cap0] ∧ (rowOf w' g)[o + k * 2]? = some (.int .i8 x') ∧ (rowOf w' g)[o + k * 2 + 1]? = some (.int .i8 y')) (go_simp) (first | (go_at_call 90; with_reducible refine (HDX.out _).mono ?_; rintro e w1 ⟨rfl, hb1⟩; have r1 := keep_rowA hb1; have f1 := keep_frA hb1; have s1 := hb1.size; (try simp only [World.size_alloc, World.size_setCell, setRow_size, World.size_drew, size_drewNm] at r1 f1 s1)) | (go_at_call 90; with_reducible refine (HDY.out _).mono ?_; rintro e w1 ⟨rfl, hb1⟩; have r1 := keep_rowA hb1; have f1 := keep_frA hb1; have s1 := hb1.size; (try simp only [World.size_alloc, World.size_setCell, setRow_size, World.size_drew, size_drewNm] at r1 f1 s1)))
        all_goals
          go_wp2
          go_roundw
          case rel => first | exact ⟨k + 1, _, by omega, by go_num, rfl, by rw [HA.out, HNX.out] <;> simp, by repeat' (first | with_reducible exact Below.refl _ _ | with_reducible assumption | with_reducible refine Below.drew ?_ | with_reducible refine Below.drewN ?_ _ | with_reducible refine Below.alloc ?_ ?_ _ | with_reducible refine Below.setCell ?_ ?_ _ | with_reducible refine Below.setRow ?_ ?_ _ | with_reducible refine below_step (by assumption) ?_ ?_ | (show (_ : Nat) ≤ _; first | omega | (simp <;> omega)))⟩ | ((repeat (with_reducible apply Exists.intro)); refine And.intro ?_ ?_; rotate_left; (focus ((repeat' (with_reducible apply And.intro)) <;> rfl)); exact ⟨k + 1, _, by omega, by go_num, rfl, by rw [HA.out, HNX.out] <;> simp, by repeat' (first | with_reducible exact Below.refl _ _ | with_reducible assumption | with_reducible refine Below.drew ?_ | with_reducible refine Below.drewN ?_ _ | with_reducible refine Below.alloc ?_ ?_ _ | with_reducible refine Below.setCell ?_ ?_ _ | with_reducible refine Below.setRow ?_ ?_ _ | with_reducible refine below_step (by assumption) ?_ ?_ | (show (_ : Nat) ≤ _; first | omega | (simp <;> omega)))⟩)
          case measure => simp [intOf] <;> omega
      · have hke : k = n := by omega
        subst hke
        have HE := Lib.hid HA.out
        go_wp2
        go_ret
        exact ⟨by rw [HE.out]; rfl, by repeat' (first | with_reducible exact Below.refl _ _ | with_reducible assumption | with_reducible refine Below.drew ?_ | with_reducible refine Below.drewN ?_ _ | with_reducible refine Below.alloc ?_ ?_ _ | with_reducible refine Below.setCell ?_ ?_ _ | with_reducible refine Below.setRow ?_ ?_ _ | with_reducible refine below_step (by assumption) ?_ ?_ | (show (_ : Nat) ≤ _; first | omega | (simp <;> omega)))⟩
set_option maxHeartbeats 2000000 in
theorem sMarkText_any (col : Int) (hcol : -128 ≤ col ∧ col ≤ 127) (v : Value) (n : Nat) (f : Nat → Int) (hn : n ≤ 1048576) (hf : ∀ j, j < n * 2 → -128 ≤ f j ∧ f j ≤ 127) (w : World) (h : SlA .i8 2 w v n f) :
    Calls Tryd.prog 12 #[.agg #[.int .i8 col, v]] w fun e w' => e = .returned (.string (tx (markTx col f n))) ∧ Below w.heap.size w w' := by
  have HH := Lib.hid h
  obtain ⟨a0, cap0, rfl⟩ := h.len
  have HT := Lib.hid (fun m w h1 h2 h3 => l06Told_any m col hcol (.slice a0 n cap0) n f hn hf w h1 h2 h3)
  clear h
  rcases Bool.eq_false_or_eq_true (markB col f n) with hb | hb
  · rw [markTx_yes hb]
    rw [hb] at HT
    unfold markB at hb
    simp only [Bool.and_eq_true] at hb
    obtain ⟨⟨h1, h2⟩, h3⟩ := hb
    have h1 := inB_true.1 h1
    have h2 := inB_true.1 h2
    have HX := Lib.hid (fun m w a b c => l06Text_any m col h1 (.slice a0 n cap0) n f (by omega) (cells8_to h3) w a b c)
    clear h1 h2 h3 hf
    go_enter Tryd.func12, Tryd.ntmps12
    go_wp2_with (first | (go_at_call 45; refine (HT.out _ _ (HH.out.below (by repeat' (first | with_reducible exact Below.refl _ _ | with_reducible assumption | with_reducible refine Below.drew ?_ | with_reducible refine Below.drewN ?_ _ | with_reducible refine Below.alloc ?_ ?_ _ | with_reducible refine Below.setCell ?_ ?_ _ | with_reducible refine Below.setRow ?_ ?_ _ | with_reducible refine below_step (by assumption) ?_ ?_ | (show (_ : Nat) ≤ _; first | omega | (simp <;> omega)))) (Nat.le_refl _)) (by (go_simp <;> (intros; omega))) (by first | omega | (simp <;> omega))).mono ?_; rintro e w1 ⟨rfl, hb1⟩; have r1 := keep_rowA hb1; have f1 := keep_frA hb1; have s1 := hb1.size; (try simp only [World.size_alloc, World.size_setCell, setRow_size, World.size_drew, size_drewNm] at r1 f1 s1)) | (go_at_call 46; refine (HX.out _ _ (HH.out.below (by repeat' (first | with_reducible exact Below.refl _ _ | with_reducible assumption | with_reducible refine Below.drew ?_ | with_reducible refine Below.drewN ?_ _ | with_reducible refine Below.alloc ?_ ?_ _ | with_reducible refine Below.setCell ?_ ?_ _ | with_reducible refine Below.setRow ?_ ?_ _ | with_reducible refine below_step (by assumption) ?_ ?_ | (show (_ : Nat) ≤ _; first | omega | (simp <;> omega)))) (Nat.le_refl _)) (by (go_simp <;> (intros; omega))) (by first | omega | (simp <;> omega))).mono ?_; rintro e w1 ⟨rfl, hb1⟩; have r1 := keep_rowA hb1; have f1 := keep_frA hb1; have s1 := hb1.size; (try simp only [World.size_alloc, World.size_setCell, setRow_size, World.size_drew, size_drewNm] at r1 f1 s1)))
    go_ret
    exact ⟨rfl, by repeat' (first | with_reducible exact Below.refl _ _ | with_reducible assumption | with_reducible refine Below.drew ?_ | with_reducible refine Below.drewN ?_ _ | with_reducible refine Below.alloc ?_ ?_ _ | with_reducible refine Below.setCell ?_ ?_ _ | with_reducible refine Below.setRow ?_ ?_ _ | with_reducible refine below_step (by assumption) ?_ ?_ | (show (_ : Nat) ≤ _; first | omega | (simp <;> omega)))⟩
  · rw [markTx_no hb]
    rw [hb] at HT
    clear hf
    go_enter Tryd.func12, Tryd.ntmps12
    go_wp2_with ((go_at_call 45; refine (HT.out _ _ (HH.out.below (by repeat' (first | with_reducible exact Below.refl _ _ | with_reducible assumption | with_reducible refine Below.drew ?_ | with_reducible refine Below.drewN ?_ _ | with_reducible refine Below.alloc ?_ ?_ _ | with_reducible refine Below.setCell ?_ ?_ _ | with_reducible refine Below.setRow ?_ ?_ _ | with_reducible refine below_step (by assumption) ?_ ?_ | (show (_ : Nat) ≤ _; first | omega | (simp <;> omega)))) (Nat.le_refl _)) (by (go_simp <;> (intros; omega))) (by first | omega | (simp <;> omega))).mono ?_; rintro e w1 ⟨rfl, hb1⟩; have r1 := keep_rowA hb1; have f1 := keep_frA hb1; have s1 := hb1.size; (try simp only [World.size_alloc, World.size_setCell, setRow_size, World.size_drew, size_drewNm] at r1 f1 s1)))
    go_ret
    exact ⟨rfl, by repeat' (first | with_reducible exact Below.refl _ _ | with_reducible assumption | with_reducible refine Below.drew ?_ | with_reducible refine Below.drewN ?_ _ | with_reducible refine Below.alloc ?_ ?_ _ | with_reducible refine Below.setCell ?_ ?_ _ | with_reducible refine Below.setRow ?_ ?_ _ | with_reducible refine below_step (by assumption) ?_ ?_ | (show (_ : Nat) ≤ _; first | omega | (simp <;> omega)))⟩
end Go.Proofs.YtbnhhjjhjjmmjaaDoor
