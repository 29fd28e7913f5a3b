/- The statement FnExactRinseBrush: for every brush the call returns true and the brush reads as before. No condition. -/
import Derived.Test.YthieanbobniegaaRows
import Derived.Test.YthieanbobniegaaRinse
namespace Go.Proofs.Ythieanbobniegaa
open Go.RowKit Go.ChangeShapes Go.WideShapes Go.ChangeAt
set_option linter.unusedVariables false
set_option linter.unusedSimpArgs false
set_option maxRecDepth 100000
theorem rinseV_is (a b c wt sh : Int) : ∃ a1 b1 c1 wt1 sh1 x y z k : Int, rinseV a b c wt sh = .tuple #[.agg (brush a1 b1 c1 wt1 sh1), .agg #[.int .i64 x, .int .i64 y, .int .i64 z], .int .i64 k] := by
  unfold rinseV
  split
  · exact ⟨_, _, _, _, _, _, _, _, _, rfl⟩
  · exact ⟨_, _, _, _, _, _, _, _, _, rfl⟩
theorem FnExactRinseBrush_walk (a b c wt sh : Int) (hf : FitBrush a b c wt sh) (w : World) : Calls Try.prog 12 #[.agg (brush a b c wt sh)] w fun e w' => e = .returned (.bool true) ∧ Below w.heap.size w w' := by
  obtain ⟨a1, b1, c1, wt1, sh1, x, y, z, k, E⟩ := rinseV_is a b c wt sh
  go_enter Try.func12, Try.ntmps12
  go_wp2_with (first | (go_at_call 15; refine (toBrush_any _ _ _ _ _ _).mono ?_; rintro e w1 ⟨rfl, hb1⟩; have r1 := keep_rowA hb1; have f1 := keep_frA hb1; have s1 := hb1.size; try simp only [World.size_alloc, World.size_setCell, setRow_size, World.size_drew] at r1 f1 s1) | (go_at_call 35; refine (sRinse_any _ _ _ _ _ _ hf).mono ?_; rintro e w1 ⟨rfl, hb1⟩; have r1 := keep_rowA hb1; have f1 := keep_frA hb1; have s1 := hb1.size; try simp only [World.size_alloc, World.size_setCell, setRow_size, World.size_drew] at r1 f1 s1) | (go_at_call 36; refine (iRinse_any _ _ _ _ _ _ hf).mono ?_; rintro e w1 ⟨rfl, hb1⟩; have r1 := keep_rowA hb1; have f1 := keep_frA hb1; have s1 := hb1.size; try simp only [World.size_alloc, World.size_setCell, setRow_size, World.size_drew] at r1 f1 s1) | (go_at_call 37; refine (eqBrush_same _ _ _ _ _ _).mono ?_; rintro e w1 ⟨rfl, hb1⟩; have r1 := keep_rowA hb1; have f1 := keep_frA hb1; have s1 := hb1.size; try simp only [World.size_alloc, World.size_setCell, setRow_size, World.size_drew] at r1 f1 s1) | (go_at_call 38; refine (eqInt64A3_lit _ _ _ _).mono ?_; rintro e w1 ⟨rfl, hb1⟩; have r1 := keep_rowA hb1; have f1 := keep_frA hb1; have s1 := hb1.size; try simp only [World.size_alloc, World.size_setCell, setRow_size, World.size_drew] at r1 f1 s1))
  go_ret
  exact ⟨rfl, by repeat' (first | with_reducible exact Below.refl _ _ | with_reducible assumption | with_reducible refine Below.drew ?_ | with_reducible refine Below.drewN ?_ _ | with_reducible refine Below.alloc ?_ ?_ _ | with_reducible refine Below.setCell ?_ ?_ _ | with_reducible refine Below.setRow ?_ ?_ _ | with_reducible refine below_step (by assumption) ?_ ?_ | (show (_ : Nat) ≤ _; first | omega | (simp <;> omega)))⟩
namespace fnExactRinseBrush
theorem own : ownKnob Try.prog.godebug = none := by kernel_rfl
set_option maxRecDepth 100000 in
theorem lifted (os : Os) (started : os.Started) (H : Type) (enc : TypeId × Value → H) :
    ReturnsInHanded {} Try.checked os 12 .any (Rows.fnExactRinseBrushSpec.pre6 enc Try.prog Try.f12 Rows.fnExactRinseBrushRow.domain false) (Rows.fnExactRinseBrushSpec.post enc Try.prog Try.f12 false true false false) := by
  refine returnsInHanded_of_change (C := Try.checked) own started (by kernel_rfl) Try.func12
    (ChangeSpec.witness6 (enc := enc) (C := Try.checked) false ⟨#[], #[.agg (kc bk 5 fun _ => 0)], []⟩ 8 (by kernel_rfl) (by kernel_rfl) (by kernel_rfl) (by kernel_rfl)) ?_
  intro W base args ds gs before hval0 hW hcnd _
  have hval : ∀ (j : Nat) t v, Try.f12.params[j]? = some t → args[j]? = some v → Value.okWide Try.prog W .any base t v := hval0
  have hW' := hW
  obtain ⟨p, q, hA0, hV, hpq, hfz, hnd⟩ := hW
  have hA : DataW.TrodAll enc Try.prog W 0 (fun _ => true) true Try.f12.params.toList args.toList ds p := hA0
  rw [Try.params12] at hA hval
  obtain ⟨v0, vs0, d0, ds0, p0, q0, hargs, hd0, hp0, h0, r0⟩ := trodAll_cons hA
  obtain ⟨rfl, hdn, hpn⟩ := trodAll_nil r0
  obtain rfl : args = #[v0] := by cases args; simp_all
  clear hA0 hval0 hA
  obtain ⟨c0, rfl, hc0⟩ := open_flat (ks := bk) (n := 5) (by kernel_rfl) (by kernel_rfl) (hval 0 27 v0 rfl rfl) h0
  exact (FnExactRinseBrush_walk (c0 0) (c0 1) (c0 2) (c0 3) (c0 4) (fitBrush hc0) W).mono fun e W' ⟨he, hb⟩ => ⟨_, he, law_post (by kernel_rfl) (by kernel_rfl) rfl rfl Try.underlying4 (fun ds h => by match ds, h with | [d0], _ => rfl) hW' hb⟩
theorem over : Rows.fnExactRinseBrushRow.holds Try.pinned (OpenSpec.ofChange Rows.fnExactRinseBrushSpec) :=
  OpenClaim.holds_of_wide 12 Try.f12 rfl rfl rfl rfl rfl rfl rfl ⟨rfl, rfl, rfl, rfl, rfl⟩ rfl rfl rfl rfl rfl (by kernel_rfl) Try.func12 (by kernel_rfl)
    (of_decide_eq_true (by kernel_rfl)) (by unfold Func.isWrapper; rw [if_neg (of_decide_eq_false (by kernel_rfl))]; exact ⟨rfl, rfl⟩)
    (fun os started H enc _ => lifted os started H enc)
theorem proved : Rows.FnExactRinseBrushSaid := over
#print axioms proved
end fnExactRinseBrush
end Go.Proofs.Ythieanbobniegaa
