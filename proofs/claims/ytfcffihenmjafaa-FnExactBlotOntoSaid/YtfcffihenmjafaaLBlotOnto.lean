/- The statement FnExactBlotOnto: for every two sheets and numbers the call returns true and the sheets read as before. No condition. Written by gen_blot.py. -/
import Derived.Test.YtfcffihenmjafaaRows
import Derived.Test.YtfcffihenmjafaaBlotW2
namespace Go.Proofs.Ytfcffihenmjafaa
open Go.RowKit Go.ChangeShapes Go.WideShapes Go.ChangeAt
set_option linter.unusedVariables false
set_option linter.unusedSimpArgs false
set_option maxRecDepth 100000
namespace fnExactBlotOnto
theorem own : ownKnob Try.prog.godebug = none := by kernel_rfl
set_option maxRecDepth 100000 in
theorem lifted (os : Os) (started : os.Started) (H : Type) (enc : TypeId × Value → H) :
    ReturnsInHanded {} Try.checked os 6 .any (Rows.fnExactBlotOntoSpec.pre6 enc Try.prog Try.f6 Rows.fnExactBlotOntoRow.domain false) (Rows.fnExactBlotOntoSpec.post enc Try.prog Try.f6 false true false false) := by
  refine returnsInHanded_of_change (C := Try.checked) own started (by kernel_rfl) Try.func6
    (ChangeSpec.witness6 (enc := enc) (C := Try.checked) false ⟨#[], #[.agg (kc sk 266 fun _ => 0), .agg (kc sk 266 fun _ => 0), .int .i64 0], []⟩ 8 (by kernel_rfl) (by kernel_rfl) (by kernel_rfl) (by kernel_rfl)) ?_
  intro W base args ds gs before hval0 hW hcnd _
  have hval : ∀ (j : Nat) t v, Try.f6.params[j]? = some t → args[j]? = some v → Value.okWide Try.prog W .any base t v := hval0
  have hW' := hW
  obtain ⟨p, q, hA0, hV, hpq, hfz, hnd⟩ := hW
  have hA : DataW.TrodAll enc Try.prog W 0 (fun _ => true) true Try.f6.params.toList args.toList ds p := hA0
  rw [Try.params6] at hA hval
  obtain ⟨v0, vs0, d0, ds0, p0, q0, hargs, hd0, hp0, h0, r0⟩ := trodAll_cons hA
  obtain ⟨v1, vs1, d1, ds1, p1, q1, rfl, hd1, hp1, h1, r1⟩ := trodAll_cons r0
  obtain ⟨v2, vs2, d2, ds2, p2, q2, rfl, hd2, hp2, h2, r2⟩ := trodAll_cons r1
  obtain ⟨rfl, hdn, hpn⟩ := trodAll_nil r2
  obtain rfl : args = #[v0, v1, v2] := by cases args; simp_all
  clear hA0 hval0 hA
  obtain ⟨c0, rfl, hc0⟩ := open_flat (ks := sk) (n := 266) (by kernel_rfl) (by kernel_rfl) (hval 0 31 v0 rfl rfl) h0
  obtain ⟨c1, rfl, hc1⟩ := open_flat (ks := sk) (n := 266) (by kernel_rfl) (by kernel_rfl) (hval 1 31 v1 rfl rfl) h1
  obtain ⟨a2, rfl, rfl, rfl, w2⟩ := open_int Try.underlying2 (hval 2 2 v2 rfl rfl) h2
  exact (FnExactBlotOnto_walk c0 (fitSheet hc0) c1 (fitSheet hc1) a2 (fit64 w2) W).mono fun e W' ⟨he, hb⟩ => ⟨_, he, law_post (by kernel_rfl) (by kernel_rfl) rfl rfl Try.underlying4 (fun ds h => by match ds, h with | [d0, d1, d2], _ => rfl) hW' hb⟩
theorem over : Rows.fnExactBlotOntoRow.holds Try.pinned (OpenSpec.ofChange Rows.fnExactBlotOntoSpec) :=
  OpenClaim.holds_of_wide 6 Try.f6 rfl rfl rfl rfl rfl rfl rfl ⟨rfl, rfl, rfl, rfl, rfl⟩ rfl rfl rfl rfl rfl (by kernel_rfl) Try.func6 (by kernel_rfl)
    (of_decide_eq_true (by kernel_rfl)) (by unfold Func.isWrapper; rw [if_neg (of_decide_eq_false (by kernel_rfl))]; exact ⟨rfl, rfl⟩)
    (fun os started H enc _ => lifted os started H enc)
theorem proved : Rows.FnExactBlotOntoSaid := over
#print axioms proved
end fnExactBlotOnto
end Go.Proofs.Ytfcffihenmjafaa
