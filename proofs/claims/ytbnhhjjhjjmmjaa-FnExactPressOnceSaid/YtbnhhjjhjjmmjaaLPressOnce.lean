/- The statement FnExactPressOnce: for every sheet and every fold the call returns true and both read as before. No condition. -/
import Derived.Test.YtbnhhjjhjjmmjaaRows
import Derived.Test.YtbnhhjjhjjmmjaaPressW
namespace Go.Proofs.Ytbnhhjjhjjmmjaa
open Go.RowKit Go.ChangeShapes Go.WideShapes Go.ChangeAt
set_option linter.unusedVariables false
set_option linter.unusedSimpArgs false
set_option maxRecDepth 100000
theorem fdIn_of {a q : Int} (h : (-128 ≤ a ∧ a ≤ 127) ∧ -128 ≤ q ∧ q ≤ 127) : (-128 ≤ a ∧ a ≤ 127) ∧ -128 ≤ q ∧ q ≤ 127 := h
namespace fnExactPressOnce
theorem own : ownKnob Try.prog.godebug = none := by kernel_rfl
set_option maxRecDepth 100000 in
theorem lifted (os : Os) (started : os.Started) (H : Type) (enc : TypeId × Value → H) :
    ReturnsInHanded {} Try.checked os 4 .any (Rows.fnExactPressOnceSpec.pre6 enc Try.prog Try.f4 Rows.fnExactPressOnceRow.domain false) (Rows.fnExactPressOnceSpec.post enc Try.prog Try.f4 false true false false) := by
  refine returnsInHanded_of_change (C := Try.checked) own started (by kernel_rfl) Try.func4
    (ChangeSpec.witness6 (enc := enc) (C := Try.checked) false ⟨#[], #[.agg (kc sk 266 fun _ => 0), .agg #[.int .i8 0, .bool false, .int .i8 0]], []⟩ 8 (by kernel_rfl) (by kernel_rfl) (by kernel_rfl) (by kernel_rfl)) ?_
  intro W base args ds gs before hval0 hW hcnd _
  have hval : ∀ (j : Nat) t v, Try.f4.params[j]? = some t → args[j]? = some v → Value.okWide Try.prog W .any base t v := hval0
  have hW' := hW
  obtain ⟨p, q, hA0, hV, hpq, hfz, hnd⟩ := hW
  have hA : DataW.TrodAll enc Try.prog W 0 (fun _ => true) true Try.f4.params.toList args.toList ds p := hA0
  rw [Try.params4] at hA hval
  obtain ⟨v0, vs0, d0, ds0, p0, q0, hargs, hd0, hp0, h0, r0⟩ := trodAll_cons hA
  obtain ⟨v1, vs1, d1, ds1, p1, q1, rfl, hd1, hp1, h1, r1⟩ := trodAll_cons r0
  obtain ⟨rfl, hdn, hpn⟩ := trodAll_nil r1
  obtain rfl : args = #[v0, v1] := by cases args; simp_all
  clear hA0 hval0 hA
  obtain ⟨c0, rfl, hc0⟩ := open_flat (ks := sk) (n := 266) (by kernel_rfl) (by kernel_rfl) (hval 0 42 v0 rfl rfl) h0
  obtain ⟨a1, b1, q1, rfl, ha1⟩ := open_fold Try.underlying44 (by kernel_rfl) (by kernel_rfl) (by kernel_rfl) rfl rfl rfl (by kernel_rfl) (by kernel_rfl) (by kernel_rfl) (by kernel_rfl) (hval 1 44 v1 rfl rfl) h1
  exact (FnExactPressOnce_walk c0 (fitSheet hc0) a1 b1 q1 ha1 W).mono fun e W' ⟨he, hb⟩ => ⟨_, he, law_post (by kernel_rfl) (by kernel_rfl) rfl rfl Try.underlying4 (fun ds h => by match ds, h with | [d0, d1], _ => rfl) hW' hb⟩
theorem over : Rows.fnExactPressOnceRow.holds Try.pinned (OpenSpec.ofChange Rows.fnExactPressOnceSpec) :=
  OpenClaim.holds_of_wide 4 Try.f4 rfl rfl rfl rfl rfl rfl rfl ⟨rfl, rfl, rfl, rfl, rfl⟩ rfl rfl rfl rfl rfl (by kernel_rfl) Try.func4 (by kernel_rfl)
    (of_decide_eq_true (by kernel_rfl)) (by unfold Func.isWrapper; rw [if_neg (of_decide_eq_false (by kernel_rfl))]; exact ⟨rfl, rfl⟩)
    (fun os started H enc _ => lifted os started H enc)
theorem proved : Rows.FnExactPressOnceSaid := over
#print axioms proved
end fnExactPressOnce
end Go.Proofs.Ytbnhhjjhjjmmjaa
