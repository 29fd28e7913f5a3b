/- The statements' own comparing functions over arrays: of one value twice they say yes, and turn nothing that was there. -/
import Derived.Test.YtigiooollonmjaaBase
import Derived.StillTailTactics
namespace Go.Proofs.Ytigiooollonmjaa
open Go.RowKit
set_option linter.unusedVariables false
set_option linter.unusedSimpArgs false
set_option maxRecDepth 100000
set_option maxHeartbeats 400000 in
theorem eqInt16A3_same (c : Nat → Int) (w : World) :
    Calls Try.prog 65 #[.agg #[.int .i16 (c 0), .int .i16 (c 1), .int .i16 (c 2)], .agg #[.int .i16 (c 0), .int .i16 (c 1), .int .i16 (c 2)]] w fun e w' => e = .returned (.bool true) ∧ Below w.heap.size w w' := by
  go_enter Try.func65, Try.ntmps65
  go_wp2
  go_loopw [5] (fun i wr => ∃ k : Nat, k ≤ 3 ∧ i = .int .i64 k ∧ Below w.heap.size w wr ∧ w.heap.size + 2 ≤ wr.heap.size ∧ rowOf wr w.heap.size = kc (fun _ => .i16) 3 c ∧ rowOf wr (w.heap.size + 1) = kc (fun _ => .i16) 3 c) (fun i wr => 3 - (intOf i).toNat)
  case atStart =>
    refine ⟨0, by omega, rfl, by repeat' (first | with_reducible exact Below.refl _ _ | with_reducible assumption | with_reducible refine Below.drew ?_ | with_reducible refine Below.drewN ?_ _ | with_reducible refine Below.alloc ?_ ?_ _ | with_reducible refine Below.setCell ?_ ?_ _ | with_reducible refine Below.setRow ?_ ?_ _ | with_reducible refine below_step (by assumption) ?_ ?_ | (show (_ : Nat) ≤ _; first | omega | (simp <;> omega))), by simp, ?_, ?_⟩
    all_goals first | (go_simp; done) | (go_simp; rfl)
  case round =>
    obtain ⟨k, hk, rfl, hb, hsz, hr0, hr1⟩ := hrel
    by_cases hlt : k < 3
    · go_wp2
      go_quiet (fail)
      go_wp2
      go_roundw
      case rel =>
        refine ⟨k + 1, by omega, by go_num, by repeat' (first | with_reducible exact Below.refl _ _ | with_reducible assumption | with_reducible refine Below.drew ?_ | with_reducible refine Below.drewN ?_ _ | with_reducible refine Below.alloc ?_ ?_ _ | with_reducible refine Below.setCell ?_ ?_ _ | with_reducible refine Below.setRow ?_ ?_ _ | with_reducible refine below_step (by assumption) ?_ ?_ | (show (_ : Nat) ≤ _; first | omega | (simp <;> omega))), by first | omega | (simp <;> omega), ?_, ?_⟩
        all_goals (go_simp <;> (intros; omega))
      case measure => simp [intOf]; omega
    · go_wp2
      go_ret
      exact ⟨rfl, by repeat' (first | with_reducible exact Below.refl _ _ | with_reducible assumption | with_reducible refine Below.drew ?_ | with_reducible refine Below.drewN ?_ _ | with_reducible refine Below.alloc ?_ ?_ _ | with_reducible refine Below.setCell ?_ ?_ _ | with_reducible refine Below.setRow ?_ ?_ _ | with_reducible refine below_step (by assumption) ?_ ?_ | (show (_ : Nat) ≤ _; first | omega | (simp <;> omega)))⟩
theorem eqInt16A3_lit (a b c : Int) (w : World) :
    Calls Try.prog 65 #[.agg #[.int .i16 a, .int .i16 b, .int .i16 c], .agg #[.int .i16 a, .int .i16 b, .int .i16 c]] w fun e w' => e = .returned (.bool true) ∧ Below w.heap.size w w' :=
  eqInt16A3_same (fun j => if j = 0 then a else if j = 1 then b else c) w
set_option maxHeartbeats 400000 in
theorem eqInt16A8_same (c : Nat → Int) (w : World) :
    Calls Try.prog 113 #[.agg (kc (fun _ => .i16) 8 c), .agg (kc (fun _ => .i16) 8 c)] w fun e w' => e = .returned (.bool true) ∧ Below w.heap.size w w' := by
  go_enter Try.func113, Try.ntmps113
  go_wp2
  go_loopw [5] (fun i wr => ∃ k : Nat, k ≤ 8 ∧ i = .int .i64 k ∧ Below w.heap.size w wr ∧ w.heap.size + 2 ≤ wr.heap.size ∧ rowOf wr w.heap.size = kc (fun _ => .i16) 8 c ∧ rowOf wr (w.heap.size + 1) = kc (fun _ => .i16) 8 c) (fun i wr => 8 - (intOf i).toNat)
  case atStart =>
    refine ⟨0, by omega, rfl, by repeat' (first | with_reducible exact Below.refl _ _ | with_reducible assumption | with_reducible refine Below.drew ?_ | with_reducible refine Below.drewN ?_ _ | with_reducible refine Below.alloc ?_ ?_ _ | with_reducible refine Below.setCell ?_ ?_ _ | with_reducible refine Below.setRow ?_ ?_ _ | with_reducible refine below_step (by assumption) ?_ ?_ | (show (_ : Nat) ≤ _; first | omega | (simp <;> omega))), by simp, ?_, ?_⟩
    all_goals first | (go_simp; done) | (go_simp; rfl)
  case round =>
    obtain ⟨k, hk, rfl, hb, hsz, hr0, hr1⟩ := hrel
    by_cases hlt : k < 8
    · go_wp2
      go_quiet (fail)
      go_wp2
      go_roundw
      case rel =>
        refine ⟨k + 1, by omega, by go_num, by repeat' (first | with_reducible exact Below.refl _ _ | with_reducible assumption | with_reducible refine Below.drew ?_ | with_reducible refine Below.drewN ?_ _ | with_reducible refine Below.alloc ?_ ?_ _ | with_reducible refine Below.setCell ?_ ?_ _ | with_reducible refine Below.setRow ?_ ?_ _ | with_reducible refine below_step (by assumption) ?_ ?_ | (show (_ : Nat) ≤ _; first | omega | (simp <;> omega))), by first | omega | (simp <;> omega), ?_, ?_⟩
        all_goals (go_simp <;> (intros; omega))
      case measure => simp [intOf]; omega
    · go_wp2
      go_ret
      exact ⟨rfl, by repeat' (first | with_reducible exact Below.refl _ _ | with_reducible assumption | with_reducible refine Below.drew ?_ | with_reducible refine Below.drewN ?_ _ | with_reducible refine Below.alloc ?_ ?_ _ | with_reducible refine Below.setCell ?_ ?_ _ | with_reducible refine Below.setRow ?_ ?_ _ | with_reducible refine below_step (by assumption) ?_ ?_ | (show (_ : Nat) ≤ _; first | omega | (simp <;> omega)))⟩
set_option maxHeartbeats 400000 in
theorem eqInt16A8A8_same (c : Nat → Int) (w : World) :
    Calls Try.prog 77 #[.agg (kc (fun _ => .i16) 64 c), .agg (kc (fun _ => .i16) 64 c)] w fun e w' => e = .returned (.bool true) ∧ Below w.heap.size w w' := by
  go_enter Try.func77, Try.ntmps77
  go_wp2
  go_loopw [5] (fun i wr => ∃ k : Nat, k ≤ 8 ∧ i = .int .i64 k ∧ Below w.heap.size w wr ∧ w.heap.size + 2 ≤ wr.heap.size ∧ rowOf wr w.heap.size = kc (fun _ => .i16) 64 c ∧ rowOf wr (w.heap.size + 1) = kc (fun _ => .i16) 64 c) (fun i wr => 8 - (intOf i).toNat)
  case atStart =>
    refine ⟨0, by omega, rfl, by repeat' (first | with_reducible exact Below.refl _ _ | with_reducible assumption | with_reducible refine Below.drew ?_ | with_reducible refine Below.drewN ?_ _ | with_reducible refine Below.alloc ?_ ?_ _ | with_reducible refine Below.setCell ?_ ?_ _ | with_reducible refine Below.setRow ?_ ?_ _ | with_reducible refine below_step (by assumption) ?_ ?_ | (show (_ : Nat) ≤ _; first | omega | (simp <;> omega))), by simp, ?_, ?_⟩
    all_goals first | (go_simp; done) | (go_simp; rfl)
  case round =>
    obtain ⟨k, hk, rfl, hb, hsz, hr0, hr1⟩ := hrel
    by_cases hlt : k < 8
    · go_wp2_with fail
      refine wp_region_still_tail 6 (by kernel_rfl) (by kernel_rfl) ?_
      simp only [List.take_succ_cons, List.take_zero, List.drop_succ_cons, List.drop_zero, World.drew_eq]
      generalize hwd : wr.drew = wd
      have hb : Below w.heap.size w wd := hwd ▸ Below.drew hb
      have hsz : w.heap.size + 2 ≤ wd.heap.size := hwd ▸ hsz
      have hr0 : rowOf wd w.heap.size = kc (fun _ => .i16) 64 c := hwd ▸ hr0
      have hr1 : rowOf wd (w.heap.size + 1) = kc (fun _ => .i16) 64 c := hwd ▸ hr1
      clear hwd
      repeat (refine wpStill_step (fun K hK => ?_); go_simp; refine hK _ ?_; clear hK K)
      try refine wpStill_nil ?_
      go_wp2_with ((go_at_call 113; refine (eqInt16A8_same _ _).mono ?_; rintro e w1 ⟨rfl, hb1⟩; have r1 := keep_rowA hb1; have f1 := keep_frA hb1; have s1 := hb1.size; (try simp only [World.size_alloc, World.size_setCell, setRow_size, World.size_drew, size_drewNm] at r1 f1 s1)))
      go_roundw
      case rel =>
        refine ⟨k + 1, by omega, by go_num, by repeat' (first | with_reducible exact Below.refl _ _ | with_reducible assumption | with_reducible refine Below.drew ?_ | with_reducible refine Below.drewN ?_ _ | with_reducible refine Below.alloc ?_ ?_ _ | with_reducible refine Below.setCell ?_ ?_ _ | with_reducible refine Below.setRow ?_ ?_ _ | with_reducible refine below_step (by assumption) ?_ ?_ | (show (_ : Nat) ≤ _; first | omega | (simp <;> omega))), by first | omega | (simp <;> omega), ?_, ?_⟩
        all_goals (go_simp <;> (intros; omega))
      case measure => simp [intOf]; omega
    · go_wp2
      go_ret
      exact ⟨rfl, by repeat' (first | with_reducible exact Below.refl _ _ | with_reducible assumption | with_reducible refine Below.drew ?_ | with_reducible refine Below.drewN ?_ _ | with_reducible refine Below.alloc ?_ ?_ _ | with_reducible refine Below.setCell ?_ ?_ _ | with_reducible refine Below.setRow ?_ ?_ _ | with_reducible refine below_step (by assumption) ?_ ?_ | (show (_ : Nat) ≤ _; first | omega | (simp <;> omega)))⟩
set_option maxHeartbeats 400000 in
theorem eqInt16A3A8_same (c : Nat → Int) (w : World) :
    Calls Try.prog 114 #[.agg (kc (fun _ => .i16) 24 c), .agg (kc (fun _ => .i16) 24 c)] w fun e w' => e = .returned (.bool true) ∧ Below w.heap.size w w' := by
  go_enter Try.func114, Try.ntmps114
  go_wp2
  go_loopw [5] (fun i wr => ∃ k : Nat, k ≤ 8 ∧ i = .int .i64 k ∧ Below w.heap.size w wr ∧ w.heap.size + 2 ≤ wr.heap.size ∧ rowOf wr w.heap.size = kc (fun _ => .i16) 24 c ∧ rowOf wr (w.heap.size + 1) = kc (fun _ => .i16) 24 c) (fun i wr => 8 - (intOf i).toNat)
  case atStart =>
    refine ⟨0, by omega, rfl, by repeat' (first | with_reducible exact Below.refl _ _ | with_reducible assumption | with_reducible refine Below.drew ?_ | with_reducible refine Below.drewN ?_ _ | with_reducible refine Below.alloc ?_ ?_ _ | with_reducible refine Below.setCell ?_ ?_ _ | with_reducible refine Below.setRow ?_ ?_ _ | with_reducible refine below_step (by assumption) ?_ ?_ | (show (_ : Nat) ≤ _; first | omega | (simp <;> omega))), by simp, ?_, ?_⟩
    all_goals first | (go_simp; done) | (go_simp; rfl)
  case round =>
    obtain ⟨k, hk, rfl, hb, hsz, hr0, hr1⟩ := hrel
    by_cases hlt : k < 8
    · go_wp2_with fail
      refine wp_region_still_tail 6 (by kernel_rfl) (by kernel_rfl) ?_
      simp only [List.take_succ_cons, List.take_zero, List.drop_succ_cons, List.drop_zero, World.drew_eq]
      generalize hwd : wr.drew = wd
      have hb : Below w.heap.size w wd := hwd ▸ Below.drew hb
      have hsz : w.heap.size + 2 ≤ wd.heap.size := hwd ▸ hsz
      have hr0 : rowOf wd w.heap.size = kc (fun _ => .i16) 24 c := hwd ▸ hr0
      have hr1 : rowOf wd (w.heap.size + 1) = kc (fun _ => .i16) 24 c := hwd ▸ hr1
      clear hwd
      repeat (refine wpStill_step (fun K hK => ?_); go_simp; refine hK _ ?_; clear hK K)
      try refine wpStill_nil ?_
      go_wp2_with ((go_at_call 65; refine (eqInt16A3_lit _ _ _ _).mono ?_; rintro e w1 ⟨rfl, hb1⟩; have r1 := keep_rowA hb1; have f1 := keep_frA hb1; have s1 := hb1.size; (try simp only [World.size_alloc, World.size_setCell, setRow_size, World.size_drew, size_drewNm] at r1 f1 s1)))
      go_roundw
      case rel =>
        refine ⟨k + 1, by omega, by go_num, by repeat' (first | with_reducible exact Below.refl _ _ | with_reducible assumption | with_reducible refine Below.drew ?_ | with_reducible refine Below.drewN ?_ _ | with_reducible refine Below.alloc ?_ ?_ _ | with_reducible refine Below.setCell ?_ ?_ _ | with_reducible refine Below.setRow ?_ ?_ _ | with_reducible refine below_step (by assumption) ?_ ?_ | (show (_ : Nat) ≤ _; first | omega | (simp <;> omega))), by first | omega | (simp <;> omega), ?_, ?_⟩
        all_goals (go_simp <;> (intros; omega))
      case measure => simp [intOf]; omega
    · go_wp2
      go_ret
      exact ⟨rfl, by repeat' (first | with_reducible exact Below.refl _ _ | with_reducible assumption | with_reducible refine Below.drew ?_ | with_reducible refine Below.drewN ?_ _ | with_reducible refine Below.alloc ?_ ?_ _ | with_reducible refine Below.setCell ?_ ?_ _ | with_reducible refine Below.setRow ?_ ?_ _ | with_reducible refine below_step (by assumption) ?_ ?_ | (show (_ : Nat) ≤ _; first | omega | (simp <;> omega)))⟩
set_option maxHeartbeats 400000 in
theorem eqInt16A3A8A8_same (c : Nat → Int) (w : World) :
    Calls Try.prog 78 #[.agg (kc (fun _ => .i16) 192 c), .agg (kc (fun _ => .i16) 192 c)] w fun e w' => e = .returned (.bool true) ∧ Below w.heap.size w w' := by
  go_enter Try.func78, Try.ntmps78
  go_wp2
  go_loopw [5] (fun i wr => ∃ k : Nat, k ≤ 8 ∧ i = .int .i64 k ∧ Below w.heap.size w wr ∧ w.heap.size + 2 ≤ wr.heap.size ∧ rowOf wr w.heap.size = kc (fun _ => .i16) 192 c ∧ rowOf wr (w.heap.size + 1) = kc (fun _ => .i16) 192 c) (fun i wr => 8 - (intOf i).toNat)
  case atStart =>
    refine ⟨0, by omega, rfl, by repeat' (first | with_reducible exact Below.refl _ _ | with_reducible assumption | with_reducible refine Below.drew ?_ | with_reducible refine Below.drewN ?_ _ | with_reducible refine Below.alloc ?_ ?_ _ | with_reducible refine Below.setCell ?_ ?_ _ | with_reducible refine Below.setRow ?_ ?_ _ | with_reducible refine below_step (by assumption) ?_ ?_ | (show (_ : Nat) ≤ _; first | omega | (simp <;> omega))), by simp, ?_, ?_⟩
    all_goals first | (go_simp; done) | (go_simp; rfl)
  case round =>
    obtain ⟨k, hk, rfl, hb, hsz, hr0, hr1⟩ := hrel
    by_cases hlt : k < 8
    · go_wp2_with fail
      refine wp_region_still_tail 6 (by kernel_rfl) (by kernel_rfl) ?_
      simp only [List.take_succ_cons, List.take_zero, List.drop_succ_cons, List.drop_zero, World.drew_eq]
      generalize hwd : wr.drew = wd
      have hb : Below w.heap.size w wd := hwd ▸ Below.drew hb
      have hsz : w.heap.size + 2 ≤ wd.heap.size := hwd ▸ hsz
      have hr0 : rowOf wd w.heap.size = kc (fun _ => .i16) 192 c := hwd ▸ hr0
      have hr1 : rowOf wd (w.heap.size + 1) = kc (fun _ => .i16) 192 c := hwd ▸ hr1
      clear hwd
      repeat (refine wpStill_step (fun K hK => ?_); go_simp; refine hK _ ?_; clear hK K)
      try refine wpStill_nil ?_
      go_wp2_with ((go_at_call 114; refine (eqInt16A3A8_same _ _).mono ?_; rintro e w1 ⟨rfl, hb1⟩; have r1 := keep_rowA hb1; have f1 := keep_frA hb1; have s1 := hb1.size; (try simp only [World.size_alloc, World.size_setCell, setRow_size, World.size_drew, size_drewNm] at r1 f1 s1)))
      go_roundw
      case rel =>
        refine ⟨k + 1, by omega, by go_num, by repeat' (first | with_reducible exact Below.refl _ _ | with_reducible assumption | with_reducible refine Below.drew ?_ | with_reducible refine Below.drewN ?_ _ | with_reducible refine Below.alloc ?_ ?_ _ | with_reducible refine Below.setCell ?_ ?_ _ | with_reducible refine Below.setRow ?_ ?_ _ | with_reducible refine below_step (by assumption) ?_ ?_ | (show (_ : Nat) ≤ _; first | omega | (simp <;> omega))), by first | omega | (simp <;> omega), ?_, ?_⟩
        all_goals (go_simp <;> (intros; omega))
      case measure => simp [intOf]; omega
    · go_wp2
      go_ret
      exact ⟨rfl, by repeat' (first | with_reducible exact Below.refl _ _ | with_reducible assumption | with_reducible refine Below.drew ?_ | with_reducible refine Below.drewN ?_ _ | with_reducible refine Below.alloc ?_ ?_ _ | with_reducible refine Below.setCell ?_ ?_ _ | with_reducible refine Below.setRow ?_ ?_ _ | with_reducible refine below_step (by assumption) ?_ ?_ | (show (_ : Nat) ≤ _; first | omega | (simp <;> omega)))⟩
set_option maxHeartbeats 400000 in
theorem eqByteA8_same (c : Nat → Int) (w : World) :
    Calls Try.prog 37 #[.agg (kc (fun _ => .u8) 8 c), .agg (kc (fun _ => .u8) 8 c)] w fun e w' => e = .returned (.bool true) ∧ Below w.heap.size w w' := by
  go_enter Try.func37, Try.ntmps37
  go_wp2
  go_loopw [5] (fun i wr => ∃ k : Nat, k ≤ 8 ∧ i = .int .i64 k ∧ Below w.heap.size w wr ∧ w.heap.size + 2 ≤ wr.heap.size ∧ rowOf wr w.heap.size = kc (fun _ => .u8) 8 c ∧ rowOf wr (w.heap.size + 1) = kc (fun _ => .u8) 8 c) (fun i wr => 8 - (intOf i).toNat)
  case atStart =>
    refine ⟨0, by omega, rfl, by repeat' (first | with_reducible exact Below.refl _ _ | with_reducible assumption | with_reducible refine Below.drew ?_ | with_reducible refine Below.drewN ?_ _ | with_reducible refine Below.alloc ?_ ?_ _ | with_reducible refine Below.setCell ?_ ?_ _ | with_reducible refine Below.setRow ?_ ?_ _ | with_reducible refine below_step (by assumption) ?_ ?_ | (show (_ : Nat) ≤ _; first | omega | (simp <;> omega))), by simp, ?_, ?_⟩
    all_goals first | (go_simp; done) | (go_simp; rfl)
  case round =>
    obtain ⟨k, hk, rfl, hb, hsz, hr0, hr1⟩ := hrel
    by_cases hlt : k < 8
    · go_wp2
      go_quiet (fail)
      go_wp2
      go_roundw
      case rel =>
        refine ⟨k + 1, by omega, by go_num, by repeat' (first | with_reducible exact Below.refl _ _ | with_reducible assumption | with_reducible refine Below.drew ?_ | with_reducible refine Below.drewN ?_ _ | with_reducible refine Below.alloc ?_ ?_ _ | with_reducible refine Below.setCell ?_ ?_ _ | with_reducible refine Below.setRow ?_ ?_ _ | with_reducible refine below_step (by assumption) ?_ ?_ | (show (_ : Nat) ≤ _; first | omega | (simp <;> omega))), by first | omega | (simp <;> omega), ?_, ?_⟩
        all_goals (go_simp <;> (intros; omega))
      case measure => simp [intOf]; omega
    · go_wp2
      go_ret
      exact ⟨rfl, by repeat' (first | with_reducible exact Below.refl _ _ | with_reducible assumption | with_reducible refine Below.drew ?_ | with_reducible refine Below.drewN ?_ _ | with_reducible refine Below.alloc ?_ ?_ _ | with_reducible refine Below.setCell ?_ ?_ _ | with_reducible refine Below.setRow ?_ ?_ _ | with_reducible refine below_step (by assumption) ?_ ?_ | (show (_ : Nat) ≤ _; first | omega | (simp <;> omega)))⟩
set_option maxHeartbeats 400000 in
theorem eqByteA8A8_same (c : Nat → Int) (w : World) :
    Calls Try.prog 82 #[.agg (kc (fun _ => .u8) 64 c), .agg (kc (fun _ => .u8) 64 c)] w fun e w' => e = .returned (.bool true) ∧ Below w.heap.size w w' := by
  go_enter Try.func82, Try.ntmps82
  go_wp2
  go_loopw [5] (fun i wr => ∃ k : Nat, k ≤ 8 ∧ i = .int .i64 k ∧ Below w.heap.size w wr ∧ w.heap.size + 2 ≤ wr.heap.size ∧ rowOf wr w.heap.size = kc (fun _ => .u8) 64 c ∧ rowOf wr (w.heap.size + 1) = kc (fun _ => .u8) 64 c) (fun i wr => 8 - (intOf i).toNat)
  case atStart =>
    refine ⟨0, by omega, rfl, by repeat' (first | with_reducible exact Below.refl _ _ | with_reducible assumption | with_reducible refine Below.drew ?_ | with_reducible refine Below.drewN ?_ _ | with_reducible refine Below.alloc ?_ ?_ _ | with_reducible refine Below.setCell ?_ ?_ _ | with_reducible refine Below.setRow ?_ ?_ _ | with_reducible refine below_step (by assumption) ?_ ?_ | (show (_ : Nat) ≤ _; first | omega | (simp <;> omega))), by simp, ?_, ?_⟩
    all_goals first | (go_simp; done) | (go_simp; rfl)
  case round =>
    obtain ⟨k, hk, rfl, hb, hsz, hr0, hr1⟩ := hrel
    by_cases hlt : k < 8
    · go_wp2_with fail
      refine wp_region_still_tail 6 (by kernel_rfl) (by kernel_rfl) ?_
      simp only [List.take_succ_cons, List.take_zero, List.drop_succ_cons, List.drop_zero, World.drew_eq]
      generalize hwd : wr.drew = wd
      have hb : Below w.heap.size w wd := hwd ▸ Below.drew hb
      have hsz : w.heap.size + 2 ≤ wd.heap.size := hwd ▸ hsz
      have hr0 : rowOf wd w.heap.size = kc (fun _ => .u8) 64 c := hwd ▸ hr0
      have hr1 : rowOf wd (w.heap.size + 1) = kc (fun _ => .u8) 64 c := hwd ▸ hr1
      clear hwd
      repeat (refine wpStill_step (fun K hK => ?_); go_simp; refine hK _ ?_; clear hK K)
      try refine wpStill_nil ?_
      go_wp2_with ((go_at_call 37; refine (eqByteA8_same _ _).mono ?_; rintro e w1 ⟨rfl, hb1⟩; have r1 := keep_rowA hb1; have f1 := keep_frA hb1; have s1 := hb1.size; (try simp only [World.size_alloc, World.size_setCell, setRow_size, World.size_drew, size_drewNm] at r1 f1 s1)))
      go_roundw
      case rel =>
        refine ⟨k + 1, by omega, by go_num, by repeat' (first | with_reducible exact Below.refl _ _ | with_reducible assumption | with_reducible refine Below.drew ?_ | with_reducible refine Below.drewN ?_ _ | with_reducible refine Below.alloc ?_ ?_ _ | with_reducible refine Below.setCell ?_ ?_ _ | with_reducible refine Below.setRow ?_ ?_ _ | with_reducible refine below_step (by assumption) ?_ ?_ | (show (_ : Nat) ≤ _; first | omega | (simp <;> omega))), by first | omega | (simp <;> omega), ?_, ?_⟩
        all_goals (go_simp <;> (intros; omega))
      case measure => simp [intOf]; omega
    · go_wp2
      go_ret
      exact ⟨rfl, by repeat' (first | with_reducible exact Below.refl _ _ | with_reducible assumption | with_reducible refine Below.drew ?_ | with_reducible refine Below.drewN ?_ _ | with_reducible refine Below.alloc ?_ ?_ _ | with_reducible refine Below.setCell ?_ ?_ _ | with_reducible refine Below.setRow ?_ ?_ _ | with_reducible refine below_step (by assumption) ?_ ?_ | (show (_ : Nat) ≤ _; first | omega | (simp <;> omega)))⟩
set_option maxHeartbeats 400000 in
theorem eqInt64A3_same (c : Nat → Int) (w : World) :
    Calls Try.prog 31 #[.agg #[.int .i64 (c 0), .int .i64 (c 1), .int .i64 (c 2)], .agg #[.int .i64 (c 0), .int .i64 (c 1), .int .i64 (c 2)]] w fun e w' => e = .returned (.bool true) ∧ Below w.heap.size w w' := by
  go_enter Try.func31, Try.ntmps31
  go_wp2
  go_loopw [5] (fun i wr => ∃ k : Nat, k ≤ 3 ∧ i = .int .i64 k ∧ Below w.heap.size w wr ∧ w.heap.size + 2 ≤ wr.heap.size ∧ rowOf wr w.heap.size = kc (fun _ => .i64) 3 c ∧ rowOf wr (w.heap.size + 1) = kc (fun _ => .i64) 3 c) (fun i wr => 3 - (intOf i).toNat)
  case atStart =>
    refine ⟨0, by omega, rfl, by repeat' (first | with_reducible exact Below.refl _ _ | with_reducible assumption | with_reducible refine Below.drew ?_ | with_reducible refine Below.drewN ?_ _ | with_reducible refine Below.alloc ?_ ?_ _ | with_reducible refine Below.setCell ?_ ?_ _ | with_reducible refine Below.setRow ?_ ?_ _ | with_reducible refine below_step (by assumption) ?_ ?_ | (show (_ : Nat) ≤ _; first | omega | (simp <;> omega))), by simp, ?_, ?_⟩
    all_goals first | (go_simp; done) | (go_simp; rfl)
  case round =>
    obtain ⟨k, hk, rfl, hb, hsz, hr0, hr1⟩ := hrel
    by_cases hlt : k < 3
    · go_wp2
      go_quiet (fail)
      go_wp2
      go_roundw
      case rel =>
        refine ⟨k + 1, by omega, by go_num, by repeat' (first | with_reducible exact Below.refl _ _ | with_reducible assumption | with_reducible refine Below.drew ?_ | with_reducible refine Below.drewN ?_ _ | with_reducible refine Below.alloc ?_ ?_ _ | with_reducible refine Below.setCell ?_ ?_ _ | with_reducible refine Below.setRow ?_ ?_ _ | with_reducible refine below_step (by assumption) ?_ ?_ | (show (_ : Nat) ≤ _; first | omega | (simp <;> omega))), by first | omega | (simp <;> omega), ?_, ?_⟩
        all_goals (go_simp <;> (intros; omega))
      case measure => simp [intOf]; omega
    · go_wp2
      go_ret
      exact ⟨rfl, by repeat' (first | with_reducible exact Below.refl _ _ | with_reducible assumption | with_reducible refine Below.drew ?_ | with_reducible refine Below.drewN ?_ _ | with_reducible refine Below.alloc ?_ ?_ _ | with_reducible refine Below.setCell ?_ ?_ _ | with_reducible refine Below.setRow ?_ ?_ _ | with_reducible refine below_step (by assumption) ?_ ?_ | (show (_ : Nat) ≤ _; first | omega | (simp <;> omega)))⟩
theorem eqInt64A3_lit (a b c : Int) (w : World) :
    Calls Try.prog 31 #[.agg #[.int .i64 a, .int .i64 b, .int .i64 c], .agg #[.int .i64 a, .int .i64 b, .int .i64 c]] w fun e w' => e = .returned (.bool true) ∧ Below w.heap.size w w' :=
  eqInt64A3_same (fun j => if j = 0 then a else if j = 1 then b else c) w
theorem eqBrush_same (a b c wt sh : Int) (w : World) :
    Calls Try.prog 18 #[.agg #[.int .i16 a, .int .i16 b, .int .i16 c, .int .i16 wt, .int .i8 sh], .agg #[.int .i16 a, .int .i16 b, .int .i16 c, .int .i16 wt, .int .i8 sh]] w fun e w' => e = .returned (.bool true) ∧ Below w.heap.size w w' := by
  go_enter Try.func18, Try.ntmps18
  go_wp2_with ((go_at_call 65; refine (eqInt16A3_lit _ _ _ _).mono ?_; rintro e w1 ⟨rfl, hb1⟩; have r1 := keep_rowA hb1; have f1 := keep_frA hb1; have s1 := hb1.size; (try simp only [World.size_alloc, World.size_setCell, setRow_size, World.size_drew, size_drewNm] at r1 f1 s1)))
  all_goals (go_ret; exact ⟨rfl, by repeat' (first | with_reducible exact Below.refl _ _ | with_reducible assumption | with_reducible refine Below.drew ?_ | with_reducible refine Below.drewN ?_ _ | with_reducible refine Below.alloc ?_ ?_ _ | with_reducible refine Below.setCell ?_ ?_ _ | with_reducible refine Below.setRow ?_ ?_ _ | with_reducible refine below_step (by assumption) ?_ ?_ | (show (_ : Nat) ≤ _; first | omega | (simp <;> omega)))⟩)
theorem eqPicture_same (c : Nat → Int) (w : World) :
    Calls Try.prog 27 #[.agg (kc pk 66 c), .agg (kc pk 66 c)] w fun e w' => e = .returned (.bool true) ∧ Below w.heap.size w w' := by
  go_enter Try.func27, Try.ntmps27
  go_wp2_with ((go_at_call 82; refine (eqByteA8A8_same _ _).mono ?_; rintro e w1 ⟨rfl, hb1⟩; have r1 := keep_rowA hb1; have f1 := keep_frA hb1; have s1 := hb1.size; (try simp only [World.size_alloc, World.size_setCell, setRow_size, World.size_drew, size_drewNm] at r1 f1 s1)))
  all_goals (go_ret; exact ⟨rfl, by repeat' (first | with_reducible exact Below.refl _ _ | with_reducible assumption | with_reducible refine Below.drew ?_ | with_reducible refine Below.drewN ?_ _ | with_reducible refine Below.alloc ?_ ?_ _ | with_reducible refine Below.setCell ?_ ?_ _ | with_reducible refine Below.setRow ?_ ?_ _ | with_reducible refine below_step (by assumption) ?_ ?_ | (show (_ : Nat) ≤ _; first | omega | (simp <;> omega)))⟩)
theorem eqSheet_same (c : Nat → Int) (w : World) :
    Calls Try.prog 23 #[.agg (kc sk 266 c), .agg (kc sk 266 c)] w fun e w' => e = .returned (.bool true) ∧ Below w.heap.size w w' := by
  go_enter Try.func23, Try.ntmps23
  go_wp2_with (first | (go_at_call 77; refine (eqInt16A8A8_same _ _).mono ?_; rintro e w1 ⟨rfl, hb1⟩; have r1 := keep_rowA hb1; have f1 := keep_frA hb1; have s1 := hb1.size; (try simp only [World.size_alloc, World.size_setCell, setRow_size, World.size_drew, size_drewNm] at r1 f1 s1)) | (go_at_call 78; refine (eqInt16A3A8A8_same _ _).mono ?_; rintro e w1 ⟨rfl, hb1⟩; have r1 := keep_rowA hb1; have f1 := keep_frA hb1; have s1 := hb1.size; (try simp only [World.size_alloc, World.size_setCell, setRow_size, World.size_drew, size_drewNm] at r1 f1 s1)) | (go_at_call 37; refine (eqByteA8_same _ _).mono ?_; rintro e w1 ⟨rfl, hb1⟩; have r1 := keep_rowA hb1; have f1 := keep_frA hb1; have s1 := hb1.size; (try simp only [World.size_alloc, World.size_setCell, setRow_size, World.size_drew, size_drewNm] at r1 f1 s1)))
  all_goals (go_ret; exact ⟨rfl, by repeat' (first | with_reducible exact Below.refl _ _ | with_reducible assumption | with_reducible refine Below.drew ?_ | with_reducible refine Below.drewN ?_ _ | with_reducible refine Below.alloc ?_ ?_ _ | with_reducible refine Below.setCell ?_ ?_ _ | with_reducible refine Below.setRow ?_ ?_ _ | with_reducible refine below_step (by assumption) ?_ ?_ | (show (_ : Nat) ≤ _; first | omega | (simp <;> omega)))⟩)
end Go.Proofs.Ytigiooollonmjaa
