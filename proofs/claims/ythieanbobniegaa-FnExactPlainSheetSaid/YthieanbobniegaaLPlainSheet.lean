/- The statement FnExactPlainSheet: for all two numbers the call returns true and both read as before. No condition. -/
import Derived.Test.YthieanbobniegaaRows
import Derived.Test.YthieanbobniegaaBlank
namespace Go.Proofs.Ythieanbobniegaa
open Go.RowKit Go.ChangeShapes Go.WideShapes Go.ChangeAt
set_option linter.unusedVariables false
set_option linter.unusedSimpArgs false
set_option maxRecDepth 100000
theorem FnExactPlainSheet_walk (a : Int) (ha : -9223372036854775808 ≤ a ∧ a ≤ 9223372036854775807) (b : Int) (hb : -9223372036854775808 ≤ b ∧ b ≤ 9223372036854775807) (w : World) : Calls Try.prog 11 #[.int .i64 a, .int .i64 b] w fun e w' => e = .returned (.bool true) ∧ Below w.heap.size w w' := by
  clear ha hb
  have key : (∃ c : Nat → Int, ∃ k : Int, blankV sk 266 a b = .tuple #[.agg (kc sk 266 c), .int .i64 k]) := by
    cases ha : inB a 1 8
    · exact ⟨_, _, blankV_no1 ha⟩
    · cases hb : inB b 1 8
      · exact ⟨_, _, blankV_no2 hb⟩
      · exact ⟨_, _, blankV_yes ha hb⟩
  obtain ⟨c, k, E⟩ := key
  go_enter Try.func11, Try.ntmps11
  go_wp2_with (first | (go_at_call 32; refine (sPlainSheet_any _ _ _).mono ?_; rintro e w1 ⟨rfl, hb1⟩; have r1 := keep_rowA hb1; have f1 := keep_frA hb1; have s1 := hb1.size; try simp only [World.size_alloc, World.size_setCell, setRow_size, World.size_drew] at r1 f1 s1) | (go_at_call 33; refine (iPlainSheet_any _ _ _).mono ?_; rintro e w1 ⟨rfl, hb1⟩; have r1 := keep_rowA hb1; have f1 := keep_frA hb1; have s1 := hb1.size; try simp only [World.size_alloc, World.size_setCell, setRow_size, World.size_drew] at r1 f1 s1) | (go_at_call 34; refine (eqSheet_same _ _).mono ?_; rintro e w1 ⟨rfl, hb1⟩; have r1 := keep_rowA hb1; have f1 := keep_frA hb1; have s1 := hb1.size; try simp only [World.size_alloc, World.size_setCell, setRow_size, World.size_drew] at r1 f1 s1))
  go_ret
  exact ⟨rfl, by repeat' (first | with_reducible exact Below.refl _ _ | with_reducible assumption | with_reducible refine Below.drew ?_ | with_reducible refine Below.drewN ?_ _ | with_reducible refine Below.alloc ?_ ?_ _ | with_reducible refine Below.setCell ?_ ?_ _ | with_reducible refine Below.setRow ?_ ?_ _ | with_reducible refine below_step (by assumption) ?_ ?_ | (show (_ : Nat) ≤ _; first | omega | (simp <;> omega)))⟩
namespace fnExactPlainSheet
theorem own : ownKnob Try.prog.godebug = none := by kernel_rfl
set_option maxRecDepth 100000 in
theorem lifted (os : Os) (started : os.Started) (H : Type) (enc : TypeId × Value → H) :
    ReturnsInHanded {} Try.checked os 11 .any (Rows.fnExactPlainSheetSpec.pre6 enc Try.prog Try.f11 Rows.fnExactPlainSheetRow.domain false) (Rows.fnExactPlainSheetSpec.post enc Try.prog Try.f11 false true false false) := by
  refine returnsInHanded_of_change (C := Try.checked) own started (by kernel_rfl) Try.func11
    (ChangeSpec.witness6 (enc := enc) (C := Try.checked) false ⟨#[], #[.int .i64 0, .int .i64 0], []⟩ 8 (by kernel_rfl) (by kernel_rfl) (by kernel_rfl) (by kernel_rfl)) ?_
  intro W base args ds gs before hval0 hW hcnd _
  have hval : ∀ (j : Nat) t v, Try.f11.params[j]? = some t → args[j]? = some v → Value.okWide Try.prog W .any base t v := hval0
  have hW' := hW
  obtain ⟨p, q, hA0, hV, hpq, hfz, hnd⟩ := hW
  have hA : DataW.TrodAll enc Try.prog W 0 (fun _ => true) true Try.f11.params.toList args.toList ds p := hA0
  rw [Try.params11] at hA hval
  obtain ⟨v0, vs0, d0, ds0, p0, q0, hargs, hd0, hp0, h0, r0⟩ := trodAll_cons hA
  obtain ⟨v1, vs1, d1, ds1, p1, q1, rfl, hd1, hp1, h1, r1⟩ := trodAll_cons r0
  obtain ⟨rfl, hdn, hpn⟩ := trodAll_nil r1
  obtain rfl : args = #[v0, v1] := by cases args; simp_all
  clear hA0 hval0 hA
  obtain ⟨a0, rfl, rfl, rfl, w0⟩ := open_int Try.underlying2 (hval 0 2 v0 rfl rfl) h0
  obtain ⟨a1, rfl, rfl, rfl, w1⟩ := open_int Try.underlying2 (hval 1 2 v1 rfl rfl) h1
  exact (FnExactPlainSheet_walk a0 (fit64 w0) a1 (fit64 w1) W).mono fun e W' ⟨he, hb⟩ => ⟨_, he, law_post (by kernel_rfl) (by kernel_rfl) rfl rfl Try.underlying4 (fun ds h => by match ds, h with | [d0, d1], _ => rfl) hW' hb⟩
theorem over : Rows.fnExactPlainSheetRow.holds Try.pinned (OpenSpec.ofChange Rows.fnExactPlainSheetSpec) :=
  OpenClaim.holds_of_wide 11 Try.f11 rfl rfl rfl rfl rfl rfl rfl ⟨rfl, rfl, rfl, rfl, rfl⟩ rfl rfl rfl rfl rfl (by kernel_rfl) Try.func11 (by kernel_rfl)
    (of_decide_eq_true (by kernel_rfl)) (by unfold Func.isWrapper; rw [if_neg (of_decide_eq_false (by kernel_rfl))]; exact ⟨rfl, rfl⟩)
    (fun os started H enc _ => lifted os started H enc)
theorem proved : Rows.FnExactPlainSheetSaid := over
#print axioms proved
end fnExactPlainSheet
end Go.Proofs.Ythieanbobniegaa
