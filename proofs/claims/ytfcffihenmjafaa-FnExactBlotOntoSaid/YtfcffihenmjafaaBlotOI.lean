/- Ink goes over once: the program. Written by gen_blot.py. -/
import Derived.Test.YtfcffihenmjafaaBlotV
import Derived.Test.YtfcffihenmjafaaBlotRI
namespace Go.Proofs.Ytfcffihenmjafaa
open Go.RowKit
set_option linter.unusedVariables false
set_option linter.unusedSimpArgs false
set_option maxRecDepth 100000
set_option maxHeartbeats 8000000 in
theorem iBlotOnto_any (c d : Nat → Int) (hc : FitSheet c) (hd : FitSheet d) (p : Int) (w : World) : Calls Try.prog 27 #[.agg (kc sk 266 c), .agg (kc sk 266 d), .int .i64 p] w fun e w' => e = .returned (blotV c d p 1) ∧ Below w.heap.size w w' := by
  obtain ⟨e1, e2, m, z, E⟩ := blotV_is c d p 1
  have HI := Lib.hid (fun w => E ▸ iBlotRounds_any c d hc hd p 1 w)
  rw [E]
  clear E hc hd
  go_enter Try.func27, Try.ntmps27
  go_wp2_with ((go_at_call 30; refine (HI.out _).mono ?_; rintro e w1 ⟨rfl, hb1⟩; have r1 := keep_rowA hb1; have f1 := keep_frA hb1; have s1 := hb1.size; (try simp only [World.size_alloc, World.size_setCell, setRow_size, World.size_drew, size_drewNm] at r1 f1 s1)))
  exact bodyPost_ret (v := .tuple #[.agg (kc sk 266 e1), .agg (kc sk 266 e2), .int .i64 m, .int .i64 z]) (res_cctt rfl rfl (by (go_simp <;> (intros; omega))) rfl (by (go_simp <;> (intros; omega))) rfl rfl) rfl ⟨rfl, by repeat' (first | with_reducible exact Below.refl _ _ | with_reducible assumption | with_reducible refine Below.drew ?_ | with_reducible refine Below.drewN ?_ _ | with_reducible refine Below.alloc ?_ ?_ _ | with_reducible refine Below.setCell ?_ ?_ _ | with_reducible refine Below.setRow ?_ ?_ _ | with_reducible refine below_step (by assumption) ?_ ?_ | (show (_ : Nat) ≤ _; first | omega | (simp <;> omega)))⟩
end Go.Proofs.Ytfcffihenmjafaa
