/- The statements' own comparing functions over arrays: of one value twice they say yes, and turn nothing that was there. -/
import Derived.Test.YtkdfkhjoijfcdaaBase
import Derived.StillTailTactics
namespace Go.Proofs.Ytkdfkhjoijfcdaa
open Go.RowKit
set_option linter.unusedVariables false
set_option linter.unusedSimpArgs false
set_option maxRecDepth 100000
set_option maxHeartbeats 400000 in
theorem eqInt16A3_same (c : Nat → Int) (w : World) :
    Calls Try.prog 81 #[.agg #[.int .i16 (c 0), .int .i16 (c 1), .int .i16 (c 2)], .agg #[.int .i16 (c 0), .int .i16 (c 1), .int .i16 (c 2)]] w fun e w' => e = .returned (.bool true) ∧ Below w.heap.size w w' := by
  go_enter Try.func81, Try.ntmps81
  go_wp2
  go_loopw [5] (fun i wr => ∃ k : Nat, k ≤ 3 ∧ i = .int .i64 k ∧ Below w.heap.size w wr ∧ w.heap.size + 2 ≤ wr.heap.size ∧ rowOf wr w.heap.size = kc (fun _ => .i16) 3 c ∧ rowOf wr (w.heap.size + 1) = kc (fun _ => .i16) 3 c) (fun i wr => 3 - (intOf i).toNat)
  case atStart =>
    refine ⟨0, by omega, rfl, by repeat' (first | with_reducible exact Below.refl _ _ | with_reducible assumption | with_reducible refine Below.drew ?_ | with_reducible refine Below.drewN ?_ _ | with_reducible refine Below.alloc ?_ ?_ _ | with_reducible refine Below.setCell ?_ ?_ _ | with_reducible refine Below.setRow ?_ ?_ _ | with_reducible refine below_step (by assumption) ?_ ?_ | (show (_ : Nat) ≤ _; first | omega | (simp <;> omega))), by simp, ?_, ?_⟩
    all_goals first | (go_simp; done) | (go_simp; rfl)
  case round =>
    obtain ⟨k, hk, rfl, hb, hsz, hr0, hr1⟩ := hrel
    by_cases hlt : k < 3
    · go_wp2
      go_quiet (fail)
      go_wp2
      go_roundw
      case rel =>
        refine ⟨k + 1, by omega, by go_num, by repeat' (first | with_reducible exact Below.refl _ _ | with_reducible assumption | with_reducible refine Below.drew ?_ | with_reducible refine Below.drewN ?_ _ | with_reducible refine Below.alloc ?_ ?_ _ | with_reducible refine Below.setCell ?_ ?_ _ | with_reducible refine Below.setRow ?_ ?_ _ | with_reducible refine below_step (by assumption) ?_ ?_ | (show (_ : Nat) ≤ _; first | omega | (simp <;> omega))), by first | omega | (simp <;> omega), ?_, ?_⟩
        all_goals (go_simp <;> (intros; omega))
      case measure => simp [intOf]; omega
    · go_wp2
      go_ret
      exact ⟨rfl, by repeat' (first | with_reducible exact Below.refl _ _ | with_reducible assumption | with_reducible refine Below.drew ?_ | with_reducible refine Below.drewN ?_ _ | with_reducible refine Below.alloc ?_ ?_ _ | with_reducible refine Below.setCell ?_ ?_ _ | with_reducible refine Below.setRow ?_ ?_ _ | with_reducible refine below_step (by assumption) ?_ ?_ | (show (_ : Nat) ≤ _; first | omega | (simp <;> omega)))⟩
theorem eqInt16A3_lit (a b c : Int) (w : World) :
    Calls Try.prog 81 #[.agg #[.int .i16 a, .int .i16 b, .int .i16 c], .agg #[.int .i16 a, .int .i16 b, .int .i16 c]] w fun e w' => e = .returned (.bool true) ∧ Below w.heap.size w w' :=
  eqInt16A3_same (fun j => if j = 0 then a else if j = 1 then b else c) w
set_option maxHeartbeats 400000 in
theorem eqInt16A8_same (c : Nat → Int) (w : World) :
    Calls Try.prog 72 #[.agg (kc (fun _ => .i16) 8 c), .agg (kc (fun _ => .i16) 8 c)] w fun e w' => e = .returned (.bool true) ∧ Below w.heap.size w w' := by
  go_enter Try.func72, Try.ntmps72
  go_wp2
  go_loopw [5] (fun i wr => ∃ k : Nat, k ≤ 8 ∧ i = .int .i64 k ∧ Below w.heap.size w wr ∧ w.heap.size + 2 ≤ wr.heap.size ∧ rowOf wr w.heap.size = kc (fun _ => .i16) 8 c ∧ rowOf wr (w.heap.size + 1) = kc (fun _ => .i16) 8 c) (fun i wr => 8 - (intOf i).toNat)
  case atStart =>
    refine ⟨0, by omega, rfl, by repeat' (first | with_reducible exact Below.refl _ _ | with_reducible assumption | with_reducible refine Below.drew ?_ | with_reducible refine Below.drewN ?_ _ | with_reducible refine Below.alloc ?_ ?_ _ | with_reducible refine Below.setCell ?_ ?_ _ | with_reducible refine Below.setRow ?_ ?_ _ | with_reducible refine below_step (by assumption) ?_ ?_ | (show (_ : Nat) ≤ _; first | omega | (simp <;> omega))), by simp, ?_, ?_⟩
    all_goals first | (go_simp; done) | (go_simp; rfl)
  case round =>
    obtain ⟨k, hk, rfl, hb, hsz, hr0, hr1⟩ := hrel
    by_cases hlt : k < 8
    · go_wp2
      go_quiet (fail)
      go_wp2
      go_roundw
      case rel =>
        refine ⟨k + 1, by omega, by go_num, by repeat' (first | with_reducible exact Below.refl _ _ | with_reducible assumption | with_reducible refine Below.drew ?_ | with_reducible refine Below.drewN ?_ _ | with_reducible refine Below.alloc ?_ ?_ _ | with_reducible refine Below.setCell ?_ ?_ _ | with_reducible refine Below.setRow ?_ ?_ _ | with_reducible refine below_step (by assumption) ?_ ?_ | (show (_ : Nat) ≤ _; first | omega | (simp <;> omega))), by first | omega | (simp <;> omega), ?_, ?_⟩
        all_goals (go_simp <;> (intros; omega))
      case measure => simp [intOf]; omega
    · go_wp2
      go_ret
      exact ⟨rfl, by repeat' (first | with_reducible exact Below.refl _ _ | with_reducible assumption | with_reducible refine Below.drew ?_ | with_reducible refine Below.drewN ?_ _ | with_reducible refine Below.alloc ?_ ?_ _ | with_reducible refine Below.setCell ?_ ?_ _ | with_reducible refine Below.setRow ?_ ?_ _ | with_reducible refine below_step (by assumption) ?_ ?_ | (show (_ : Nat) ≤ _; first | omega | (simp <;> omega)))⟩
set_option maxHeartbeats 400000 in
theorem eqInt16A8A8_same (c : Nat → Int) (w : World) :
    Calls Try.prog 55 #[.agg (kc (fun _ => .i16) 64 c), .agg (kc (fun _ => .i16) 64 c)] w fun e w' => e = .returned (.bool true) ∧ Below w.heap.size w w' := by
  go_enter Try.func55, Try.ntmps55
  go_wp2
  go_loopw [5] (fun i wr => ∃ k : Nat, k ≤ 8 ∧ i = .int .i64 k ∧ Below w.heap.size w wr ∧ w.heap.size + 2 ≤ wr.heap.size ∧ rowOf wr w.heap.size = kc (fun _ => .i16) 64 c ∧ rowOf wr (w.heap.size + 1) = kc (fun _ => .i16) 64 c) (fun i wr => 8 - (intOf i).toNat)
  case atStart =>
    refine ⟨0, by omega, rfl, by repeat' (first | with_reducible exact Below.refl _ _ | with_reducible assumption | with_reducible refine Below.drew ?_ | with_reducible refine Below.drewN ?_ _ | with_reducible refine Below.alloc ?_ ?_ _ | with_reducible refine Below.setCell ?_ ?_ _ | with_reducible refine Below.setRow ?_ ?_ _ | with_reducible refine below_step (by assumption) ?_ ?_ | (show (_ : Nat) ≤ _; first | omega | (simp <;> omega))), by simp, ?_, ?_⟩
    all_goals first | (go_simp; done) | (go_simp; rfl)
  case round =>
    obtain ⟨k, hk, rfl, hb, hsz, hr0, hr1⟩ := hrel
    by_cases hlt : k < 8
    · go_wp2_with fail
      refine wp_region_still_tail 6 (by kernel_rfl) (by kernel_rfl) ?_
      simp only [List.take_succ_cons, List.take_zero, List.drop_succ_cons, List.drop_zero, World.drew_eq]
      generalize hwd : wr.drew = wd
      have hb : Below w.heap.size w wd := hwd ▸ Below.drew hb
      have hsz : w.heap.size + 2 ≤ wd.heap.size := hwd ▸ hsz
      have hr0 : rowOf wd w.heap.size = kc (fun _ => .i16) 64 c := hwd ▸ hr0
      have hr1 : rowOf wd (w.heap.size + 1) = kc (fun _ => .i16) 64 c := hwd ▸ hr1
      clear hwd
      repeat (refine wpStill_step (fun K hK => ?_); go_simp; refine hK _ ?_; clear hK K)
      try refine wpStill_nil ?_
      go_wp2_with ((go_at_call 72; refine (eqInt16A8_same _ _).mono ?_; rintro e w1 ⟨rfl, hb1⟩; have r1 := keep_rowA hb1; have f1 := keep_frA hb1; have s1 := hb1.size; (try simp only [World.size_alloc, World.size_setCell, setRow_size, World.size_drew, size_drewNm] at r1 f1 s1)))
      go_roundw
      case rel =>
        refine ⟨k + 1, by omega, by go_num, by repeat' (first | with_reducible exact Below.refl _ _ | with_reducible assumption | with_reducible refine Below.drew ?_ | with_reducible refine Below.drewN ?_ _ | with_reducible refine Below.alloc ?_ ?_ _ | with_reducible refine Below.setCell ?_ ?_ _ | with_reducible refine Below.setRow ?_ ?_ _ | with_reducible refine below_step (by assumption) ?_ ?_ | (show (_ : Nat) ≤ _; first | omega | (simp <;> omega))), by first | omega | (simp <;> omega), ?_, ?_⟩
        all_goals (go_simp <;> (intros; omega))
      case measure => simp [intOf]; omega
    · go_wp2
      go_ret
      exact ⟨rfl, by repeat' (first | with_reducible exact Below.refl _ _ | with_reducible assumption | with_reducible refine Below.drew ?_ | with_reducible refine Below.drewN ?_ _ | with_reducible refine Below.alloc ?_ ?_ _ | with_reducible refine Below.setCell ?_ ?_ _ | with_reducible refine Below.setRow ?_ ?_ _ | with_reducible refine below_step (by assumption) ?_ ?_ | (show (_ : Nat) ≤ _; first | omega | (simp <;> omega)))⟩
set_option maxHeartbeats 400000 in
theorem eqInt16A3A8_same (c : Nat → Int) (w : World) :
    Calls Try.prog 73 #[.agg (kc (fun _ => .i16) 24 c), .agg (kc (fun _ => .i16) 24 c)] w fun e w' => e = .returned (.bool true) ∧ Below w.heap.size w w' := by
  go_enter Try.func73, Try.ntmps73
  go_wp2
  go_loopw [5] (fun i wr => ∃ k : Nat, k ≤ 8 ∧ i = .int .i64 k ∧ Below w.heap.size w wr ∧ w.heap.size + 2 ≤ wr.heap.size ∧ rowOf wr w.heap.size = kc (fun _ => .i16) 24 c ∧ rowOf wr (w.heap.size + 1) = kc (fun _ => .i16) 24 c) (fun i wr => 8 - (intOf i).toNat)
  case atStart =>
    refine ⟨0, by omega, rfl, by repeat' (first | with_reducible exact Below.refl _ _ | with_reducible assumption | with_reducible refine Below.drew ?_ | with_reducible refine Below.drewN ?_ _ | with_reducible refine Below.alloc ?_ ?_ _ | with_reducible refine Below.setCell ?_ ?_ _ | with_reducible refine Below.setRow ?_ ?_ _ | with_reducible refine below_step (by assumption) ?_ ?_ | (show (_ : Nat) ≤ _; first | omega | (simp <;> omega))), by simp, ?_, ?_⟩
    all_goals first | (go_simp; done) | (go_simp; rfl)
  case round =>
    obtain ⟨k, hk, rfl, hb, hsz, hr0, hr1⟩ := hrel
    by_cases hlt : k < 8
    · go_wp2_with fail
      refine wp_region_still_tail 6 (by kernel_rfl) (by kernel_rfl) ?_
      simp only [List.take_succ_cons, List.take_zero, List.drop_succ_cons, List.drop_zero, World.drew_eq]
      generalize hwd : wr.drew = wd
      have hb : Below w.heap.size w wd := hwd ▸ Below.drew hb
      have hsz : w.heap.size + 2 ≤ wd.heap.size := hwd ▸ hsz
      have hr0 : rowOf wd w.heap.size = kc (fun _ => .i16) 24 c := hwd ▸ hr0
      have hr1 : rowOf wd (w.heap.size + 1) = kc (fun _ => .i16) 24 c := hwd ▸ hr1
      clear hwd
      repeat (refine wpStill_step (fun K hK => ?_); go_simp; refine hK _ ?_; clear hK K)
      try refine wpStill_nil ?_
      go_wp2_with ((go_at_call 81; refine (eqInt16A3_lit _ _ _ _).mono ?_; rintro e w1 ⟨rfl, hb1⟩; have r1 := keep_rowA hb1; have f1 := keep_frA hb1; have s1 := hb1.size; (try simp only [World.size_alloc, World.size_setCell, setRow_size, World.size_drew, size_drewNm] at r1 f1 s1)))
      go_roundw
      case rel =>
        refine ⟨k + 1, by omega, by go_num, by repeat' (first | with_reducible exact Below.refl _ _ | with_reducible assumption | with_reducible refine Below.drew ?_ | with_reducible refine Below.drewN ?_ _ | with_reducible refine Below.alloc ?_ ?_ _ | with_reducible refine Below.setCell ?_ ?_ _ | with_reducible refine Below.setRow ?_ ?_ _ | with_reducible refine below_step (by assumption) ?_ ?_ | (show (_ : Nat) ≤ _; first | omega | (simp <;> omega))), by first | omega | (simp <;> omega), ?_, ?_⟩
        all_goals (go_simp <;> (intros; omega))
      case measure => simp [intOf]; omega
    · go_wp2
      go_ret
      exact ⟨rfl, by repeat' (first | with_reducible exact Below.refl _ _ | with_reducible assumption | with_reducible refine Below.drew ?_ | with_reducible refine Below.drewN ?_ _ | with_reducible refine Below.alloc ?_ ?_ _ | with_reducible refine Below.setCell ?_ ?_ _ | with_reducible refine Below.setRow ?_ ?_ _ | with_reducible refine below_step (by assumption) ?_ ?_ | (show (_ : Nat) ≤ _; first | omega | (simp <;> omega)))⟩
set_option maxHeartbeats 400000 in
theorem eqInt16A3A8A8_same (c : Nat → Int) (w : World) :
    Calls Try.prog 56 #[.agg (kc (fun _ => .i16) 192 c), .agg (kc (fun _ => .i16) 192 c)] w fun e w' => e = .returned (.bool true) ∧ Below w.heap.size w w' := by
  go_enter Try.func56, Try.ntmps56
  go_wp2
  go_loopw [5] (fun i wr => ∃ k : Nat, k ≤ 8 ∧ i = .int .i64 k ∧ Below w.heap.size w wr ∧ w.heap.size + 2 ≤ wr.heap.size ∧ rowOf wr w.heap.size = kc (fun _ => .i16) 192 c ∧ rowOf wr (w.heap.size + 1) = kc (fun _ => .i16) 192 c) (fun i wr => 8 - (intOf i).toNat)
  case atStart =>
    refine ⟨0, by omega, rfl, by repeat' (first | with_reducible exact Below.refl _ _ | with_reducible assumption | with_reducible refine Below.drew ?_ | with_reducible refine Below.drewN ?_ _ | with_reducible refine Below.alloc ?_ ?_ _ | with_reducible refine Below.setCell ?_ ?_ _ | with_reducible refine Below.setRow ?_ ?_ _ | with_reducible refine below_step (by assumption) ?_ ?_ | (show (_ : Nat) ≤ _; first | omega | (simp <;> omega))), by simp, ?_, ?_⟩
    all_goals first | (go_simp; done) | (go_simp; rfl)
  case round =>
    obtain ⟨k, hk, rfl, hb, hsz, hr0, hr1⟩ := hrel
    by_cases hlt : k < 8
    · go_wp2_with fail
      refine wp_region_still_tail 6 (by kernel_rfl) (by kernel_rfl) ?_
      simp only [List.take_succ_cons, List.take_zero, List.drop_succ_cons, List.drop_zero, World.drew_eq]
      generalize hwd : wr.drew = wd
      have hb : Below w.heap.size w wd := hwd ▸ Below.drew hb
      have hsz : w.heap.size + 2 ≤ wd.heap.size := hwd ▸ hsz
      have hr0 : rowOf wd w.heap.size = kc (fun _ => .i16) 192 c := hwd ▸ hr0
      have hr1 : rowOf wd (w.heap.size + 1) = kc (fun _ => .i16) 192 c := hwd ▸ hr1
      clear hwd
      repeat (refine wpStill_step (fun K hK => ?_); go_simp; refine hK _ ?_; clear hK K)
      try refine wpStill_nil ?_
      go_wp2_with ((go_at_call 73; refine (eqInt16A3A8_same _ _).mono ?_; rintro e w1 ⟨rfl, hb1⟩; have r1 := keep_rowA hb1; have f1 := keep_frA hb1; have s1 := hb1.size; (try simp only [World.size_alloc, World.size_setCell, setRow_size, World.size_drew, size_drewNm] at r1 f1 s1)))
      go_roundw
      case rel =>
        refine ⟨k + 1, by omega, by go_num, by repeat' (first | with_reducible exact Below.refl _ _ | with_reducible assumption | with_reducible refine Below.drew ?_ | with_reducible refine Below.drewN ?_ _ | with_reducible refine Below.alloc ?_ ?_ _ | with_reducible refine Below.setCell ?_ ?_ _ | with_reducible refine Below.setRow ?_ ?_ _ | with_reducible refine below_step (by assumption) ?_ ?_ | (show (_ : Nat) ≤ _; first | omega | (simp <;> omega))), by first | omega | (simp <;> omega), ?_, ?_⟩
        all_goals (go_simp <;> (intros; omega))
      case measure => simp [intOf]; omega
    · go_wp2
      go_ret
      exact ⟨rfl, by repeat' (first | with_reducible exact Below.refl _ _ | with_reducible assumption | with_reducible refine Below.drew ?_ | with_reducible refine Below.drewN ?_ _ | with_reducible refine Below.alloc ?_ ?_ _ | with_reducible refine Below.setCell ?_ ?_ _ | with_reducible refine Below.setRow ?_ ?_ _ | with_reducible refine below_step (by assumption) ?_ ?_ | (show (_ : Nat) ≤ _; first | omega | (simp <;> omega)))⟩
set_option maxHeartbeats 400000 in
theorem eqByteA8_same (c : Nat → Int) (w : World) :
    Calls Try.prog 57 #[.agg (kc (fun _ => .u8) 8 c), .agg (kc (fun _ => .u8) 8 c)] w fun e w' => e = .returned (.bool true) ∧ Below w.heap.size w w' := by
  go_enter Try.func57, Try.ntmps57
  go_wp2
  go_loopw [5] (fun i wr => ∃ k : Nat, k ≤ 8 ∧ i = .int .i64 k ∧ Below w.heap.size w wr ∧ w.heap.size + 2 ≤ wr.heap.size ∧ rowOf wr w.heap.size = kc (fun _ => .u8) 8 c ∧ rowOf wr (w.heap.size + 1) = kc (fun _ => .u8) 8 c) (fun i wr => 8 - (intOf i).toNat)
  case atStart =>
    refine ⟨0, by omega, rfl, by repeat' (first | with_reducible exact Below.refl _ _ | with_reducible assumption | with_reducible refine Below.drew ?_ | with_reducible refine Below.drewN ?_ _ | with_reducible refine Below.alloc ?_ ?_ _ | with_reducible refine Below.setCell ?_ ?_ _ | with_reducible refine Below.setRow ?_ ?_ _ | with_reducible refine below_step (by assumption) ?_ ?_ | (show (_ : Nat) ≤ _; first | omega | (simp <;> omega))), by simp, ?_, ?_⟩
    all_goals first | (go_simp; done) | (go_simp; rfl)
  case round =>
    obtain ⟨k, hk, rfl, hb, hsz, hr0, hr1⟩ := hrel
    by_cases hlt : k < 8
    · go_wp2
      go_quiet (fail)
      go_wp2
      go_roundw
      case rel =>
        refine ⟨k + 1, by omega, by go_num, by repeat' (first | with_reducible exact Below.refl _ _ | with_reducible assumption | with_reducible refine Below.drew ?_ | with_reducible refine Below.drewN ?_ _ | with_reducible refine Below.alloc ?_ ?_ _ | with_reducible refine Below.setCell ?_ ?_ _ | with_reducible refine Below.setRow ?_ ?_ _ | with_reducible refine below_step (by assumption) ?_ ?_ | (show (_ : Nat) ≤ _; first | omega | (simp <;> omega))), by first | omega | (simp <;> omega), ?_, ?_⟩
        all_goals (go_simp <;> (intros; omega))
      case measure => simp [intOf]; omega
    · go_wp2
      go_ret
      exact ⟨rfl, by repeat' (first | with_reducible exact Below.refl _ _ | with_reducible assumption | with_reducible refine Below.drew ?_ | with_reducible refine Below.drewN ?_ _ | with_reducible refine Below.alloc ?_ ?_ _ | with_reducible refine Below.setCell ?_ ?_ _ | with_reducible refine Below.setRow ?_ ?_ _ | with_reducible refine below_step (by assumption) ?_ ?_ | (show (_ : Nat) ≤ _; first | omega | (simp <;> omega)))⟩
theorem eqSheet_same (c : Nat → Int) (w : World) :
    Calls Try.prog 31 #[.agg (kc sk 266 c), .agg (kc sk 266 c)] w fun e w' => e = .returned (.bool true) ∧ Below w.heap.size w w' := by
  go_enter Try.func31, Try.ntmps31
  go_wp2_with (first | (go_at_call 55; refine (eqInt16A8A8_same _ _).mono ?_; rintro e w1 ⟨rfl, hb1⟩; have r1 := keep_rowA hb1; have f1 := keep_frA hb1; have s1 := hb1.size; (try simp only [World.size_alloc, World.size_setCell, setRow_size, World.size_drew, size_drewNm] at r1 f1 s1)) | (go_at_call 56; refine (eqInt16A3A8A8_same _ _).mono ?_; rintro e w1 ⟨rfl, hb1⟩; have r1 := keep_rowA hb1; have f1 := keep_frA hb1; have s1 := hb1.size; (try simp only [World.size_alloc, World.size_setCell, setRow_size, World.size_drew, size_drewNm] at r1 f1 s1)) | (go_at_call 57; refine (eqByteA8_same _ _).mono ?_; rintro e w1 ⟨rfl, hb1⟩; have r1 := keep_rowA hb1; have f1 := keep_frA hb1; have s1 := hb1.size; (try simp only [World.size_alloc, World.size_setCell, setRow_size, World.size_drew, size_drewNm] at r1 f1 s1)))
  all_goals (go_ret; exact ⟨rfl, by repeat' (first | with_reducible exact Below.refl _ _ | with_reducible assumption | with_reducible refine Below.drew ?_ | with_reducible refine Below.drewN ?_ _ | with_reducible refine Below.alloc ?_ ?_ _ | with_reducible refine Below.setCell ?_ ?_ _ | with_reducible refine Below.setRow ?_ ?_ _ | with_reducible refine below_step (by assumption) ?_ ?_ | (show (_ : Nat) ≤ _; first | omega | (simp <;> omega)))⟩)
end Go.Proofs.Ytkdfkhjoijfcdaa
