/- The statements' own copying functions over arrays: each gives back what it was given, and turns nothing that was there. -/
import Derived.Test.YtejnejplofddnaaGreatDoorTy
namespace Go.Proofs.YtejnejplofddnaaGreatDoor
open Go.RowKit
set_option linter.unusedVariables false
set_option linter.unusedSimpArgs false
set_option maxRecDepth 100000
set_option maxHeartbeats 400000 in
theorem toInt16A3_any (c : Nat → Int) (w : World) :
    Calls Tryz.prog 146 #[.agg #[.int .i16 (c 0), .int .i16 (c 1), .int .i16 (c 2)]] w fun e w' => e = .returned (.agg #[.int .i16 (c 0), .int .i16 (c 1), .int .i16 (c 2)]) ∧ Below w.heap.size w w' := by
  go_enter Tryz.func146, Tryz.ntmps146
  go_wp2
  go_loopw [4] (fun i wr => ∃ (k : Nat) (d : Nat → Int), k ≤ 3 ∧ i = .int .i64 k ∧ Below w.heap.size w wr ∧ w.heap.size + 3 ≤ wr.heap.size ∧ rowOf wr w.heap.size = kc (fun _ => .i16) 3 c ∧ frOf wr (w.heap.size + 1) = (0, 0) ∧ frOf wr (w.heap.size + 1 + 1) = (0, 0) ∧ rowOf wr (w.heap.size + 1) = kc (fun _ => .i16) 3 (fun _ => 0) ∧ rowOf wr (w.heap.size + 1 + 1) = kc (fun _ => .i16) 3 d ∧ ∀ j, j < k * 1 → d j = c j) (fun i wr => 3 - (intOf i).toNat)
  case atStart =>
    refine ⟨0, fun _ => 0, by omega, rfl, by repeat' (first | with_reducible exact Below.refl _ _ | with_reducible assumption | with_reducible refine Below.drew ?_ | with_reducible refine Below.drewN ?_ _ | with_reducible refine Below.alloc ?_ ?_ _ | with_reducible refine Below.setCell ?_ ?_ _ | with_reducible refine Below.setRow ?_ ?_ _ | with_reducible refine below_step (by assumption) ?_ ?_ | (show (_ : Nat) ≤ _; first | omega | (simp <;> omega))), by simp, ?_, ?_, ?_, ?_, ?_, fun j hj => absurd hj (by omega)⟩
    all_goals first | (go_simp; done) | (go_simp; rfl)
  case round =>
    obtain ⟨k, d, hk, rfl, hb, hsz, hr0, hf1, hf2, hr1, hr2, hd⟩ := hrel
    by_cases hlt : k < 3
    · go_wp2
      go_roundw
      case rel =>
        refine ⟨k + 1, upI d k (c k), by omega, by go_num, by repeat' (first | with_reducible exact Below.refl _ _ | with_reducible assumption | with_reducible refine Below.drew ?_ | with_reducible refine Below.drewN ?_ _ | with_reducible refine Below.alloc ?_ ?_ _ | with_reducible refine Below.setCell ?_ ?_ _ | with_reducible refine Below.setRow ?_ ?_ _ | with_reducible refine below_step (by assumption) ?_ ?_ | (show (_ : Nat) ≤ _; first | omega | (simp <;> omega))), by simp <;> omega, ?_, ?_, ?_, ?_, ?_, fun j hj => ?_⟩
        case refine_6 =>
          simp only [upI, spI]
          repeat' split
          all_goals first | (apply hd; omega) | (congr 1; omega) | skip
        all_goals (go_simp <;> (intros; omega))
      case measure => simp [intOf]; omega
    · go_wp2
      refine bodyPost_ret (v := .agg #[.int .i16 (c 0), .int .i16 (c 1), .int .i16 (c 2)]) (res_c rfl rfl ?_) rfl ⟨rfl, by repeat' (first | with_reducible exact Below.refl _ _ | with_reducible assumption | with_reducible refine Below.drew ?_ | with_reducible refine Below.drewN ?_ _ | with_reducible refine Below.alloc ?_ ?_ _ | with_reducible refine Below.setCell ?_ ?_ _ | with_reducible refine Below.setRow ?_ ?_ _ | with_reducible refine below_step (by assumption) ?_ ?_ | (show (_ : Nat) ≤ _; first | omega | (simp <;> omega)))⟩
      have hc : ∀ j, j < 3 → d j = c j := fun j hj => hd j (by omega)
      have e0 := hc 0 (by omega)
      have e1 := hc 1 (by omega)
      have e2 := hc 2 (by omega)
      clear hc hd
      go_simp
theorem toInt16A3_lit (a b c : Int) (w : World) :
    Calls Tryz.prog 146 #[.agg #[.int .i16 a, .int .i16 b, .int .i16 c]] w fun e w' => e = .returned (.agg #[.int .i16 a, .int .i16 b, .int .i16 c]) ∧ Below w.heap.size w w' :=
  toInt16A3_any (fun j => if j = 0 then a else if j = 1 then b else c) w
set_option maxHeartbeats 400000 in
theorem toInt16A8_any (c : Nat → Int) (w : World) :
    Calls Tryz.prog 117 #[.agg (kc (fun _ => .i16) 8 c)] w fun e w' => e = .returned (.agg (kc (fun _ => .i16) 8 c)) ∧ Below w.heap.size w w' := by
  go_enter Tryz.func117, Tryz.ntmps117
  go_wp2
  go_loopw [4] (fun i wr => ∃ (k : Nat) (d : Nat → Int), k ≤ 8 ∧ i = .int .i64 k ∧ Below w.heap.size w wr ∧ w.heap.size + 3 ≤ wr.heap.size ∧ rowOf wr w.heap.size = kc (fun _ => .i16) 8 c ∧ frOf wr (w.heap.size + 1) = (0, 0) ∧ frOf wr (w.heap.size + 1 + 1) = (0, 0) ∧ rowOf wr (w.heap.size + 1) = kc (fun _ => .i16) 8 (fun _ => 0) ∧ rowOf wr (w.heap.size + 1 + 1) = kc (fun _ => .i16) 8 d ∧ ∀ j, j < k * 1 → d j = c j) (fun i wr => 8 - (intOf i).toNat)
  case atStart =>
    refine ⟨0, fun _ => 0, by omega, rfl, by repeat' (first | with_reducible exact Below.refl _ _ | with_reducible assumption | with_reducible refine Below.drew ?_ | with_reducible refine Below.drewN ?_ _ | with_reducible refine Below.alloc ?_ ?_ _ | with_reducible refine Below.setCell ?_ ?_ _ | with_reducible refine Below.setRow ?_ ?_ _ | with_reducible refine below_step (by assumption) ?_ ?_ | (show (_ : Nat) ≤ _; first | omega | (simp <;> omega))), by simp, ?_, ?_, ?_, ?_, ?_, fun j hj => absurd hj (by omega)⟩
    all_goals first | (go_simp; done) | (go_simp; rfl)
  case round =>
    obtain ⟨k, d, hk, rfl, hb, hsz, hr0, hf1, hf2, hr1, hr2, hd⟩ := hrel
    by_cases hlt : k < 8
    · go_wp2
      go_roundw
      case rel =>
        refine ⟨k + 1, upI d k (c k), by omega, by go_num, by repeat' (first | with_reducible exact Below.refl _ _ | with_reducible assumption | with_reducible refine Below.drew ?_ | with_reducible refine Below.drewN ?_ _ | with_reducible refine Below.alloc ?_ ?_ _ | with_reducible refine Below.setCell ?_ ?_ _ | with_reducible refine Below.setRow ?_ ?_ _ | with_reducible refine below_step (by assumption) ?_ ?_ | (show (_ : Nat) ≤ _; first | omega | (simp <;> omega))), by simp <;> omega, ?_, ?_, ?_, ?_, ?_, fun j hj => ?_⟩
        case refine_6 =>
          simp only [upI, spI]
          repeat' split
          all_goals first | (apply hd; omega) | (congr 1; omega) | skip
        all_goals (go_simp <;> (intros; omega))
      case measure => simp [intOf]; omega
    · go_wp2
      refine bodyPost_ret (v := .agg (kc (fun _ => .i16) 8 c)) (res_c rfl rfl ?_) rfl ⟨rfl, by repeat' (first | with_reducible exact Below.refl _ _ | with_reducible assumption | with_reducible refine Below.drew ?_ | with_reducible refine Below.drewN ?_ _ | with_reducible refine Below.alloc ?_ ?_ _ | with_reducible refine Below.setCell ?_ ?_ _ | with_reducible refine Below.setRow ?_ ?_ _ | with_reducible refine below_step (by assumption) ?_ ?_ | (show (_ : Nat) ≤ _; first | omega | (simp <;> omega)))⟩
      have hc : ∀ j, j < 8 → d j = c j := fun j hj => hd j (by omega)
      have e : kc (fun _ => .i16) 8 d = kc (fun _ => .i16) 8 c := kc_ext hc
      clear hc hd
      go_simp
set_option maxHeartbeats 400000 in
theorem toInt16A8A8_any (c : Nat → Int) (w : World) :
    Calls Tryz.prog 76 #[.agg (kc (fun _ => .i16) 64 c)] w fun e w' => e = .returned (.agg (kc (fun _ => .i16) 64 c)) ∧ Below w.heap.size w w' := by
  go_enter Tryz.func76, Tryz.ntmps76
  go_wp2
  go_loopw [4] (fun i wr => ∃ (k : Nat) (d : Nat → Int), k ≤ 8 ∧ i = .int .i64 k ∧ Below w.heap.size w wr ∧ w.heap.size + 3 ≤ wr.heap.size ∧ rowOf wr w.heap.size = kc (fun _ => .i16) 64 c ∧ frOf wr (w.heap.size + 1) = (0, 0) ∧ frOf wr (w.heap.size + 1 + 1) = (0, 0) ∧ rowOf wr (w.heap.size + 1) = kc (fun _ => .i16) 64 (fun _ => 0) ∧ rowOf wr (w.heap.size + 1 + 1) = kc (fun _ => .i16) 64 d ∧ ∀ j, j < k * 8 → d j = c j) (fun i wr => 8 - (intOf i).toNat)
  case atStart =>
    refine ⟨0, fun _ => 0, by omega, rfl, by repeat' (first | with_reducible exact Below.refl _ _ | with_reducible assumption | with_reducible refine Below.drew ?_ | with_reducible refine Below.drewN ?_ _ | with_reducible refine Below.alloc ?_ ?_ _ | with_reducible refine Below.setCell ?_ ?_ _ | with_reducible refine Below.setRow ?_ ?_ _ | with_reducible refine below_step (by assumption) ?_ ?_ | (show (_ : Nat) ≤ _; first | omega | (simp <;> omega))), by simp, ?_, ?_, ?_, ?_, ?_, fun j hj => absurd hj (by omega)⟩
    all_goals first | (go_simp; done) | (go_simp; rfl)
  case round =>
    obtain ⟨k, d, hk, rfl, hb, hsz, hr0, hf1, hf2, hr1, hr2, hd⟩ := hrel
    by_cases hlt : k < 8
    · go_wp2_with (go_at_call 117; refine (toInt16A8_any _ _).mono ?_; rintro e w1 ⟨rfl, hb1⟩; have hr0 := (keep_row hb1 (by omega)).trans hr0; have hr1 := (keep_row hb1 (by omega)).trans hr1; have hr2 := (keep_row hb1 (by omega)).trans hr2; have hf1 := (keep_fr hb1 (by omega)).trans hf1; have hf2 := (keep_fr hb1 (by omega)).trans hf2; have s1 := hb1.size; have hb := Below.trans hb (Below.mono hb1 (by omega)); clear hb1)
      go_roundw
      case rel =>
        refine ⟨k + 1, spI d (k * 8) 8 (fun j => c (k * 8 + j)), by omega, by go_num, by repeat' (first | with_reducible exact Below.refl _ _ | with_reducible assumption | with_reducible refine Below.drew ?_ | with_reducible refine Below.drewN ?_ _ | with_reducible refine Below.alloc ?_ ?_ _ | with_reducible refine Below.setCell ?_ ?_ _ | with_reducible refine Below.setRow ?_ ?_ _ | with_reducible refine below_step (by assumption) ?_ ?_ | (show (_ : Nat) ≤ _; first | omega | (simp <;> omega))), by simp <;> omega, ?_, ?_, ?_, ?_, ?_, fun j hj => ?_⟩
        case refine_6 =>
          simp only [upI, spI]
          repeat' split
          all_goals first | (apply hd; omega) | (congr 1; omega) | skip
        all_goals (go_simp <;> (intros; omega))
      case measure => simp [intOf]; omega
    · go_wp2
      refine bodyPost_ret (v := .agg (kc (fun _ => .i16) 64 c)) (res_c rfl rfl ?_) rfl ⟨rfl, by repeat' (first | with_reducible exact Below.refl _ _ | with_reducible assumption | with_reducible refine Below.drew ?_ | with_reducible refine Below.drewN ?_ _ | with_reducible refine Below.alloc ?_ ?_ _ | with_reducible refine Below.setCell ?_ ?_ _ | with_reducible refine Below.setRow ?_ ?_ _ | with_reducible refine below_step (by assumption) ?_ ?_ | (show (_ : Nat) ≤ _; first | omega | (simp <;> omega)))⟩
      have hc : ∀ j, j < 64 → d j = c j := fun j hj => hd j (by omega)
      have e : kc (fun _ => .i16) 64 d = kc (fun _ => .i16) 64 c := kc_ext hc
      clear hc hd
      go_simp
set_option maxHeartbeats 400000 in
theorem toInt16A3A8_any (c : Nat → Int) (w : World) :
    Calls Tryz.prog 118 #[.agg (kc (fun _ => .i16) 24 c)] w fun e w' => e = .returned (.agg (kc (fun _ => .i16) 24 c)) ∧ Below w.heap.size w w' := by
  go_enter Tryz.func118, Tryz.ntmps118
  go_wp2
  go_loopw [4] (fun i wr => ∃ (k : Nat) (d : Nat → Int), k ≤ 8 ∧ i = .int .i64 k ∧ Below w.heap.size w wr ∧ w.heap.size + 3 ≤ wr.heap.size ∧ rowOf wr w.heap.size = kc (fun _ => .i16) 24 c ∧ frOf wr (w.heap.size + 1) = (0, 0) ∧ frOf wr (w.heap.size + 1 + 1) = (0, 0) ∧ rowOf wr (w.heap.size + 1) = kc (fun _ => .i16) 24 (fun _ => 0) ∧ rowOf wr (w.heap.size + 1 + 1) = kc (fun _ => .i16) 24 d ∧ ∀ j, j < k * 3 → d j = c j) (fun i wr => 8 - (intOf i).toNat)
  case atStart =>
    refine ⟨0, fun _ => 0, by omega, rfl, by repeat' (first | with_reducible exact Below.refl _ _ | with_reducible assumption | with_reducible refine Below.drew ?_ | with_reducible refine Below.drewN ?_ _ | with_reducible refine Below.alloc ?_ ?_ _ | with_reducible refine Below.setCell ?_ ?_ _ | with_reducible refine Below.setRow ?_ ?_ _ | with_reducible refine below_step (by assumption) ?_ ?_ | (show (_ : Nat) ≤ _; first | omega | (simp <;> omega))), by simp, ?_, ?_, ?_, ?_, ?_, fun j hj => absurd hj (by omega)⟩
    all_goals first | (go_simp; done) | (go_simp; rfl)
  case round =>
    obtain ⟨k, d, hk, rfl, hb, hsz, hr0, hf1, hf2, hr1, hr2, hd⟩ := hrel
    by_cases hlt : k < 8
    · go_wp2_with (go_at_call 146; refine (toInt16A3_lit _ _ _ _).mono ?_; rintro e w1 ⟨rfl, hb1⟩; have hr0 := (keep_row hb1 (by omega)).trans hr0; have hr1 := (keep_row hb1 (by omega)).trans hr1; have hr2 := (keep_row hb1 (by omega)).trans hr2; have hf1 := (keep_fr hb1 (by omega)).trans hf1; have hf2 := (keep_fr hb1 (by omega)).trans hf2; have s1 := hb1.size; have hb := Below.trans hb (Below.mono hb1 (by omega)); clear hb1)
      go_roundw
      case rel =>
        refine ⟨k + 1, upI (upI (upI d (k * 3) (c (k * 3))) (k * 3 + 1) (c (k * 3 + 1))) (k * 3 + 1 + 1) (c (k * 3 + 1 + 1)), by omega, by go_num, by repeat' (first | with_reducible exact Below.refl _ _ | with_reducible assumption | with_reducible refine Below.drew ?_ | with_reducible refine Below.drewN ?_ _ | with_reducible refine Below.alloc ?_ ?_ _ | with_reducible refine Below.setCell ?_ ?_ _ | with_reducible refine Below.setRow ?_ ?_ _ | with_reducible refine below_step (by assumption) ?_ ?_ | (show (_ : Nat) ≤ _; first | omega | (simp <;> omega))), by simp <;> omega, ?_, ?_, ?_, ?_, ?_, fun j hj => ?_⟩
        case refine_6 =>
          simp only [upI, spI]
          repeat' split
          all_goals first | (apply hd; omega) | (congr 1; omega) | skip
        all_goals (go_simp <;> (intros; omega))
      case measure => simp [intOf]; omega
    · go_wp2
      refine bodyPost_ret (v := .agg (kc (fun _ => .i16) 24 c)) (res_c rfl rfl ?_) rfl ⟨rfl, by repeat' (first | with_reducible exact Below.refl _ _ | with_reducible assumption | with_reducible refine Below.drew ?_ | with_reducible refine Below.drewN ?_ _ | with_reducible refine Below.alloc ?_ ?_ _ | with_reducible refine Below.setCell ?_ ?_ _ | with_reducible refine Below.setRow ?_ ?_ _ | with_reducible refine below_step (by assumption) ?_ ?_ | (show (_ : Nat) ≤ _; first | omega | (simp <;> omega)))⟩
      have hc : ∀ j, j < 24 → d j = c j := fun j hj => hd j (by omega)
      have e : kc (fun _ => .i16) 24 d = kc (fun _ => .i16) 24 c := kc_ext hc
      clear hc hd
      go_simp
set_option maxHeartbeats 400000 in
theorem toInt16A3A8A8_any (c : Nat → Int) (w : World) :
    Calls Tryz.prog 77 #[.agg (kc (fun _ => .i16) 192 c)] w fun e w' => e = .returned (.agg (kc (fun _ => .i16) 192 c)) ∧ Below w.heap.size w w' := by
  go_enter Tryz.func77, Tryz.ntmps77
  go_wp2
  go_loopw [4] (fun i wr => ∃ (k : Nat) (d : Nat → Int), k ≤ 8 ∧ i = .int .i64 k ∧ Below w.heap.size w wr ∧ w.heap.size + 3 ≤ wr.heap.size ∧ rowOf wr w.heap.size = kc (fun _ => .i16) 192 c ∧ frOf wr (w.heap.size + 1) = (0, 0) ∧ frOf wr (w.heap.size + 1 + 1) = (0, 0) ∧ rowOf wr (w.heap.size + 1) = kc (fun _ => .i16) 192 (fun _ => 0) ∧ rowOf wr (w.heap.size + 1 + 1) = kc (fun _ => .i16) 192 d ∧ ∀ j, j < k * 24 → d j = c j) (fun i wr => 8 - (intOf i).toNat)
  case atStart =>
    refine ⟨0, fun _ => 0, by omega, rfl, by repeat' (first | with_reducible exact Below.refl _ _ | with_reducible assumption | with_reducible refine Below.drew ?_ | with_reducible refine Below.drewN ?_ _ | with_reducible refine Below.alloc ?_ ?_ _ | with_reducible refine Below.setCell ?_ ?_ _ | with_reducible refine Below.setRow ?_ ?_ _ | with_reducible refine below_step (by assumption) ?_ ?_ | (show (_ : Nat) ≤ _; first | omega | (simp <;> omega))), by simp, ?_, ?_, ?_, ?_, ?_, fun j hj => absurd hj (by omega)⟩
    all_goals first | (go_simp; done) | (go_simp; rfl)
  case round =>
    obtain ⟨k, d, hk, rfl, hb, hsz, hr0, hf1, hf2, hr1, hr2, hd⟩ := hrel
    by_cases hlt : k < 8
    · go_wp2_with (go_at_call 118; refine (toInt16A3A8_any _ _).mono ?_; rintro e w1 ⟨rfl, hb1⟩; have hr0 := (keep_row hb1 (by omega)).trans hr0; have hr1 := (keep_row hb1 (by omega)).trans hr1; have hr2 := (keep_row hb1 (by omega)).trans hr2; have hf1 := (keep_fr hb1 (by omega)).trans hf1; have hf2 := (keep_fr hb1 (by omega)).trans hf2; have s1 := hb1.size; have hb := Below.trans hb (Below.mono hb1 (by omega)); clear hb1)
      go_roundw
      case rel =>
        refine ⟨k + 1, spI d (k * 24) 24 (fun j => c (k * 24 + j)), by omega, by go_num, by repeat' (first | with_reducible exact Below.refl _ _ | with_reducible assumption | with_reducible refine Below.drew ?_ | with_reducible refine Below.drewN ?_ _ | with_reducible refine Below.alloc ?_ ?_ _ | with_reducible refine Below.setCell ?_ ?_ _ | with_reducible refine Below.setRow ?_ ?_ _ | with_reducible refine below_step (by assumption) ?_ ?_ | (show (_ : Nat) ≤ _; first | omega | (simp <;> omega))), by simp <;> omega, ?_, ?_, ?_, ?_, ?_, fun j hj => ?_⟩
        case refine_6 =>
          simp only [upI, spI]
          repeat' split
          all_goals first | (apply hd; omega) | (congr 1; omega) | skip
        all_goals (go_simp <;> (intros; omega))
      case measure => simp [intOf]; omega
    · go_wp2
      refine bodyPost_ret (v := .agg (kc (fun _ => .i16) 192 c)) (res_c rfl rfl ?_) rfl ⟨rfl, by repeat' (first | with_reducible exact Below.refl _ _ | with_reducible assumption | with_reducible refine Below.drew ?_ | with_reducible refine Below.drewN ?_ _ | with_reducible refine Below.alloc ?_ ?_ _ | with_reducible refine Below.setCell ?_ ?_ _ | with_reducible refine Below.setRow ?_ ?_ _ | with_reducible refine below_step (by assumption) ?_ ?_ | (show (_ : Nat) ≤ _; first | omega | (simp <;> omega)))⟩
      have hc : ∀ j, j < 192 → d j = c j := fun j hj => hd j (by omega)
      have e : kc (fun _ => .i16) 192 d = kc (fun _ => .i16) 192 c := kc_ext hc
      clear hc hd
      go_simp
set_option maxHeartbeats 400000 in
theorem toByteA8_any (c : Nat → Int) (w : World) :
    Calls Tryz.prog 78 #[.agg (kc (fun _ => .u8) 8 c)] w fun e w' => e = .returned (.agg (kc (fun _ => .u8) 8 c)) ∧ Below w.heap.size w w' := by
  go_enter Tryz.func78, Tryz.ntmps78
  go_wp2
  go_loopw [4] (fun i wr => ∃ (k : Nat) (d : Nat → Int), k ≤ 8 ∧ i = .int .i64 k ∧ Below w.heap.size w wr ∧ w.heap.size + 3 ≤ wr.heap.size ∧ rowOf wr w.heap.size = kc (fun _ => .u8) 8 c ∧ frOf wr (w.heap.size + 1) = (0, 0) ∧ frOf wr (w.heap.size + 1 + 1) = (0, 0) ∧ rowOf wr (w.heap.size + 1) = kc (fun _ => .u8) 8 (fun _ => 0) ∧ rowOf wr (w.heap.size + 1 + 1) = kc (fun _ => .u8) 8 d ∧ ∀ j, j < k * 1 → d j = c j) (fun i wr => 8 - (intOf i).toNat)
  case atStart =>
    refine ⟨0, fun _ => 0, by omega, rfl, by repeat' (first | with_reducible exact Below.refl _ _ | with_reducible assumption | with_reducible refine Below.drew ?_ | with_reducible refine Below.drewN ?_ _ | with_reducible refine Below.alloc ?_ ?_ _ | with_reducible refine Below.setCell ?_ ?_ _ | with_reducible refine Below.setRow ?_ ?_ _ | with_reducible refine below_step (by assumption) ?_ ?_ | (show (_ : Nat) ≤ _; first | omega | (simp <;> omega))), by simp, ?_, ?_, ?_, ?_, ?_, fun j hj => absurd hj (by omega)⟩
    all_goals first | (go_simp; done) | (go_simp; rfl)
  case round =>
    obtain ⟨k, d, hk, rfl, hb, hsz, hr0, hf1, hf2, hr1, hr2, hd⟩ := hrel
    by_cases hlt : k < 8
    · go_wp2
      go_roundw
      case rel =>
        refine ⟨k + 1, upI d k (c k), by omega, by go_num, by repeat' (first | with_reducible exact Below.refl _ _ | with_reducible assumption | with_reducible refine Below.drew ?_ | with_reducible refine Below.drewN ?_ _ | with_reducible refine Below.alloc ?_ ?_ _ | with_reducible refine Below.setCell ?_ ?_ _ | with_reducible refine Below.setRow ?_ ?_ _ | with_reducible refine below_step (by assumption) ?_ ?_ | (show (_ : Nat) ≤ _; first | omega | (simp <;> omega))), by simp <;> omega, ?_, ?_, ?_, ?_, ?_, fun j hj => ?_⟩
        case refine_6 =>
          simp only [upI, spI]
          repeat' split
          all_goals first | (apply hd; omega) | (congr 1; omega) | skip
        all_goals (go_simp <;> (intros; omega))
      case measure => simp [intOf]; omega
    · go_wp2
      refine bodyPost_ret (v := .agg (kc (fun _ => .u8) 8 c)) (res_c rfl rfl ?_) rfl ⟨rfl, by repeat' (first | with_reducible exact Below.refl _ _ | with_reducible assumption | with_reducible refine Below.drew ?_ | with_reducible refine Below.drewN ?_ _ | with_reducible refine Below.alloc ?_ ?_ _ | with_reducible refine Below.setCell ?_ ?_ _ | with_reducible refine Below.setRow ?_ ?_ _ | with_reducible refine below_step (by assumption) ?_ ?_ | (show (_ : Nat) ≤ _; first | omega | (simp <;> omega)))⟩
      have hc : ∀ j, j < 8 → d j = c j := fun j hj => hd j (by omega)
      have e : kc (fun _ => .u8) 8 d = kc (fun _ => .u8) 8 c := kc_ext hc
      clear hc hd
      go_simp
end Go.Proofs.YtejnejplofddnaaGreatDoor
