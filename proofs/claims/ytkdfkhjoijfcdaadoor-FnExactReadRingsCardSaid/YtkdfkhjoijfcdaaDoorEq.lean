/- The statements' own comparing functions over arrays: of one value twice they say yes, and turn nothing that was there. -/
import Derived.Test.YtkdfkhjoijfcdaaDoorBase
import Derived.StillTailTactics
namespace Go.Proofs.YtkdfkhjoijfcdaaDoor
open Go.RowKit
set_option linter.unusedVariables false
set_option linter.unusedSimpArgs false
set_option maxRecDepth 100000
set_option maxHeartbeats 400000 in
theorem eqInt16A8_same (c : Nat → Int) (w : World) :
    Calls Tryd.prog 22 #[.agg (kc (fun _ => .i16) 8 c), .agg (kc (fun _ => .i16) 8 c)] w fun e w' => e = .returned (.bool true) ∧ Below w.heap.size w w' := by
  go_enter Tryd.func22, Tryd.ntmps22
  go_wp2
  go_loopw [5] (fun i wr => ∃ k : Nat, k ≤ 8 ∧ i = .int .i64 k ∧ Below w.heap.size w wr ∧ w.heap.size + 2 ≤ wr.heap.size ∧ rowOf wr w.heap.size = kc (fun _ => .i16) 8 c ∧ rowOf wr (w.heap.size + 1) = kc (fun _ => .i16) 8 c) (fun i wr => 8 - (intOf i).toNat)
  case atStart =>
    refine ⟨0, by omega, rfl, by repeat' (first | with_reducible exact Below.refl _ _ | with_reducible assumption | with_reducible refine Below.drew ?_ | with_reducible refine Below.drewN ?_ _ | with_reducible refine Below.alloc ?_ ?_ _ | with_reducible refine Below.setCell ?_ ?_ _ | with_reducible refine Below.setRow ?_ ?_ _ | with_reducible refine below_step (by assumption) ?_ ?_ | (show (_ : Nat) ≤ _; first | omega | (simp <;> omega))), by simp, ?_, ?_⟩
    all_goals first | (go_simp; done) | (go_simp; rfl)
  case round =>
    obtain ⟨k, hk, rfl, hb, hsz, hr0, hr1⟩ := hrel
    by_cases hlt : k < 8
    · go_wp2
      go_quiet (fail)
      go_wp2
      go_roundw
      case rel =>
        refine ⟨k + 1, by omega, by go_num, by repeat' (first | with_reducible exact Below.refl _ _ | with_reducible assumption | with_reducible refine Below.drew ?_ | with_reducible refine Below.drewN ?_ _ | with_reducible refine Below.alloc ?_ ?_ _ | with_reducible refine Below.setCell ?_ ?_ _ | with_reducible refine Below.setRow ?_ ?_ _ | with_reducible refine below_step (by assumption) ?_ ?_ | (show (_ : Nat) ≤ _; first | omega | (simp <;> omega))), by first | omega | (simp <;> omega), ?_, ?_⟩
        all_goals (go_simp <;> (intros; omega))
      case measure => simp [intOf]; omega
    · go_wp2
      go_ret
      exact ⟨rfl, by repeat' (first | with_reducible exact Below.refl _ _ | with_reducible assumption | with_reducible refine Below.drew ?_ | with_reducible refine Below.drewN ?_ _ | with_reducible refine Below.alloc ?_ ?_ _ | with_reducible refine Below.setCell ?_ ?_ _ | with_reducible refine Below.setRow ?_ ?_ _ | with_reducible refine below_step (by assumption) ?_ ?_ | (show (_ : Nat) ≤ _; first | omega | (simp <;> omega)))⟩
set_option maxHeartbeats 400000 in
theorem eqRings_same (c : Nat → Int) (w : World) :
    Calls Tryd.prog 7 #[.agg (kc (fun _ => .i16) 64 c), .agg (kc (fun _ => .i16) 64 c)] w fun e w' => e = .returned (.bool true) ∧ Below w.heap.size w w' := by
  go_enter Tryd.func7, Tryd.ntmps7
  go_wp2
  go_loopw [5] (fun i wr => ∃ k : Nat, k ≤ 8 ∧ i = .int .i64 k ∧ Below w.heap.size w wr ∧ w.heap.size + 2 ≤ wr.heap.size ∧ rowOf wr w.heap.size = kc (fun _ => .i16) 64 c ∧ rowOf wr (w.heap.size + 1) = kc (fun _ => .i16) 64 c) (fun i wr => 8 - (intOf i).toNat)
  case atStart =>
    refine ⟨0, by omega, rfl, by repeat' (first | with_reducible exact Below.refl _ _ | with_reducible assumption | with_reducible refine Below.drew ?_ | with_reducible refine Below.drewN ?_ _ | with_reducible refine Below.alloc ?_ ?_ _ | with_reducible refine Below.setCell ?_ ?_ _ | with_reducible refine Below.setRow ?_ ?_ _ | with_reducible refine below_step (by assumption) ?_ ?_ | (show (_ : Nat) ≤ _; first | omega | (simp <;> omega))), by simp, ?_, ?_⟩
    all_goals first | (go_simp; done) | (go_simp; rfl)
  case round =>
    obtain ⟨k, hk, rfl, hb, hsz, hr0, hr1⟩ := hrel
    by_cases hlt : k < 8
    · go_wp2_with fail
      refine wp_region_still_tail 6 (by kernel_rfl) (by kernel_rfl) ?_
      simp only [List.take_succ_cons, List.take_zero, List.drop_succ_cons, List.drop_zero, World.drew_eq]
      generalize hwd : wr.drew = wd
      have hb : Below w.heap.size w wd := hwd ▸ Below.drew hb
      have hsz : w.heap.size + 2 ≤ wd.heap.size := hwd ▸ hsz
      have hr0 : rowOf wd w.heap.size = kc (fun _ => .i16) 64 c := hwd ▸ hr0
      have hr1 : rowOf wd (w.heap.size + 1) = kc (fun _ => .i16) 64 c := hwd ▸ hr1
      clear hwd
      repeat (refine wpStill_step (fun K hK => ?_); go_simp; refine hK _ ?_; clear hK K)
      try refine wpStill_nil ?_
      go_wp2_with ((go_at_call 22; refine (eqInt16A8_same _ _).mono ?_; rintro e w1 ⟨rfl, hb1⟩; have r1 := keep_rowA hb1; have f1 := keep_frA hb1; have s1 := hb1.size; (try simp only [World.size_alloc, World.size_setCell, setRow_size, World.size_drew, size_drewNm] at r1 f1 s1)))
      go_roundw
      case rel =>
        refine ⟨k + 1, by omega, by go_num, by repeat' (first | with_reducible exact Below.refl _ _ | with_reducible assumption | with_reducible refine Below.drew ?_ | with_reducible refine Below.drewN ?_ _ | with_reducible refine Below.alloc ?_ ?_ _ | with_reducible refine Below.setCell ?_ ?_ _ | with_reducible refine Below.setRow ?_ ?_ _ | with_reducible refine below_step (by assumption) ?_ ?_ | (show (_ : Nat) ≤ _; first | omega | (simp <;> omega))), by first | omega | (simp <;> omega), ?_, ?_⟩
        all_goals (go_simp <;> (intros; omega))
      case measure => simp [intOf]; omega
    · go_wp2
      go_ret
      exact ⟨rfl, by repeat' (first | with_reducible exact Below.refl _ _ | with_reducible assumption | with_reducible refine Below.drew ?_ | with_reducible refine Below.drewN ?_ _ | with_reducible refine Below.alloc ?_ ?_ _ | with_reducible refine Below.setCell ?_ ?_ _ | with_reducible refine Below.setRow ?_ ?_ _ | with_reducible refine below_step (by assumption) ?_ ?_ | (show (_ : Nat) ≤ _; first | omega | (simp <;> omega)))⟩
end Go.Proofs.YtkdfkhjoijfcdaaDoor
