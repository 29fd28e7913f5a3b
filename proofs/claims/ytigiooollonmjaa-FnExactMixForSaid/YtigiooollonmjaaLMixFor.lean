/- The statement FnExactMixFor: for every wanted mixture and number of parts the call returns true and the mixture reads as before. No condition. -/
import Derived.Test.YtigiooollonmjaaRows
import Derived.Test.YtigiooollonmjaaMixI
import Derived.Test.YtigiooollonmjaaEq
import Derived.Test.YtigiooollonmjaaCopy
import Derived.Test.YtigiooollonmjaaOpen
namespace Go.Proofs.Ytigiooollonmjaa
open Go.RowKit Go.ChangeShapes Go.WideShapes Go.ChangeAt
set_option linter.unusedVariables false
set_option linter.unusedSimpArgs false
set_option maxRecDepth 100000
noncomputable def mixV (x y z p : Int) : Value := if goodMix x y z p = true then (if x + y + z = 0 then mixErr 4 else mixOk (allM x y z (x + y + z) p (p + 1).toNat)) else mixErr 2
theorem goodMix_is {x y z p : Int} (h : goodMix x y z p = true) : (0 ≤ x ∧ x ≤ 1000) ∧ (0 ≤ y ∧ y ≤ 1000) ∧ (0 ≤ z ∧ z ≤ 1000) ∧ 1 ≤ p ∧ p ≤ 30 := by
  unfold goodMix at h
  simp only [Bool.and_eq_true, inB_true] at h
  exact ⟨h.1.1.2, h.1.2, h.2, h.1.1.1⟩
theorem sMix_any (x y z p : Int) (w : World) : Calls Try.prog 28 #[.agg #[.int .i64 x, .int .i64 y, .int .i64 z], .int .i64 p] w fun e w' => e = .returned (mixV x y z p) ∧ Below w.heap.size w w' := by
  by_cases h : goodMix x y z p = true
  · obtain ⟨hx, hy, hz, hp⟩ := goodMix_is h
    by_cases h0 : x + y + z = 0
    · rw [show mixV x y z p = mixErr 4 by unfold mixV; rw [if_pos h, if_pos h0]]
      obtain rfl : x = 0 := by omega
      obtain rfl : y = 0 := by omega
      obtain rfl : z = 0 := by omega
      exact sMix_zero p hp w
    · rw [show mixV x y z p = mixOk (allM x y z (x + y + z) p (p + 1).toNat) by unfold mixV; rw [if_pos h, if_neg h0]]
      exact sMix_good x y z p hx hy hz hp h0 w
  · rw [show mixV x y z p = mixErr 2 by unfold mixV; rw [if_neg h]]
    exact sMix_bad x y z p (by simpa using h) w
theorem iMix_any (x y z p : Int) (w : World) : Calls Try.prog 30 #[.agg #[.int .i64 x, .int .i64 y, .int .i64 z], .int .i64 p] w fun e w' => e = .returned (mixV x y z p) ∧ Below w.heap.size w w' := by
  by_cases h : goodMix x y z p = true
  · obtain ⟨hx, hy, hz, hp⟩ := goodMix_is h
    by_cases h0 : x + y + z = 0
    · rw [show mixV x y z p = mixErr 4 by unfold mixV; rw [if_pos h, if_pos h0]]
      obtain rfl : x = 0 := by omega
      obtain rfl : y = 0 := by omega
      obtain rfl : z = 0 := by omega
      exact iMix_zero p hp w
    · rw [show mixV x y z p = mixOk (allM x y z (x + y + z) p (p + 1).toNat) by unfold mixV; rw [if_pos h, if_neg h0]]
      exact iMix_good x y z p hx hy hz hp h0 w
  · rw [show mixV x y z p = mixErr 2 by unfold mixV; rw [if_neg h]]
    exact iMix_bad x y z p (by simpa using h) w
theorem mixV_is (x y z p : Int) : ∃ a b c d e : Int, mixV x y z p = .tuple #[.agg #[.int .i64 a, .int .i64 b, .int .i64 c], .int .i64 d, .int .i64 e] := by
  unfold mixV mixErr mixOk
  split
  · split <;> exact ⟨_, _, _, _, _, rfl⟩
  · exact ⟨_, _, _, _, _, rfl⟩
set_option maxHeartbeats 4000000 in
theorem FnExactMixFor_walk (x y z : Int) (hx : (Lit.int .i64 x).wf = true) (hy : (Lit.int .i64 y).wf = true) (hz : (Lit.int .i64 z).wf = true) (p : Int) (hp : -9223372036854775808 ≤ p ∧ p ≤ 9223372036854775807) (w : World) : Calls Try.prog 6 #[.agg #[.int .i64 x, .int .i64 y, .int .i64 z], .int .i64 p] w fun e w' => e = .returned (.bool true) ∧ Below w.heap.size w w' := by
  clear hx hy hz hp
  obtain ⟨a, b, c, d, e, E⟩ := mixV_is x y z p
  have HS := Lib.hid (fun w => E ▸ sMix_any x y z p w)
  have HI := Lib.hid (fun w => E ▸ iMix_any x y z p w)
  clear E
  go_enter Try.func6, Try.ntmps6
  go_wp2_with (first | (go_at_call 29; refine (toInt64A3_lit _ _ _ _).mono ?_; rintro e w1 ⟨rfl, hb1⟩; have r1 := keep_rowA hb1; have f1 := keep_frA hb1; have s1 := hb1.size; (try simp only [World.size_alloc, World.size_setCell, setRow_size, World.size_drew] at r1 f1 s1)) | (go_at_call 28; refine (HS.out _).mono ?_; rintro e w1 ⟨rfl, hb1⟩; have r1 := keep_rowA hb1; have f1 := keep_frA hb1; have s1 := hb1.size; (try simp only [World.size_alloc, World.size_setCell, setRow_size, World.size_drew] at r1 f1 s1)) | (go_at_call 30; refine (HI.out _).mono ?_; rintro e w1 ⟨rfl, hb1⟩; have r1 := keep_rowA hb1; have f1 := keep_frA hb1; have s1 := hb1.size; (try simp only [World.size_alloc, World.size_setCell, setRow_size, World.size_drew] at r1 f1 s1)) | (go_at_call 31; refine (eqInt64A3_lit _ _ _ _).mono ?_; rintro e w1 ⟨rfl, hb1⟩; have r1 := keep_rowA hb1; have f1 := keep_frA hb1; have s1 := hb1.size; (try simp only [World.size_alloc, World.size_setCell, setRow_size, World.size_drew] at r1 f1 s1)))
  go_ret
  exact ⟨rfl, by repeat' (first | with_reducible exact Below.refl _ _ | with_reducible assumption | with_reducible refine Below.drew ?_ | with_reducible refine Below.drewN ?_ _ | with_reducible refine Below.alloc ?_ ?_ _ | with_reducible refine Below.setCell ?_ ?_ _ | with_reducible refine Below.setRow ?_ ?_ _ | with_reducible refine below_step (by assumption) ?_ ?_ | (show (_ : Nat) ≤ _; first | omega | (simp <;> omega)))⟩
namespace fnExactMixFor
theorem own : ownKnob Try.prog.godebug = none := by kernel_rfl
set_option maxRecDepth 100000 in
theorem lifted (os : Os) (started : os.Started) (H : Type) (enc : TypeId × Value → H) :
    ReturnsInHanded {} Try.checked os 6 .any (Rows.fnExactMixForSpec.pre6 enc Try.prog Try.f6 Rows.fnExactMixForRow.domain false) (Rows.fnExactMixForSpec.post enc Try.prog Try.f6 false true false false) := by
  refine returnsInHanded_of_change (C := Try.checked) own started (by kernel_rfl) Try.func6
    (ChangeSpec.witness6 (enc := enc) (C := Try.checked) false ⟨#[], #[.agg #[.int .i64 0, .int .i64 0, .int .i64 0], .int .i64 0], []⟩ 8 (by kernel_rfl) (by kernel_rfl) (by kernel_rfl) (by kernel_rfl)) ?_
  intro W base args ds gs before hval0 hW hcnd _
  have hval : ∀ (j : Nat) t v, Try.f6.params[j]? = some t → args[j]? = some v → Value.okWide Try.prog W .any base t v := hval0
  have hW' := hW
  obtain ⟨p, q, hA0, hV, hpq, hfz, hnd⟩ := hW
  have hA : DataW.TrodAll enc Try.prog W 0 (fun _ => true) true Try.f6.params.toList args.toList ds p := hA0
  rw [Try.params6] at hA hval
  obtain ⟨v0, vs0, d0, ds0, p0, q0, hargs, hd0, hp0, h0, r0⟩ := trodAll_cons hA
  obtain ⟨v1, vs1, d1, ds1, p1, q1, rfl, hd1, hp1, h1, r1⟩ := trodAll_cons r0
  obtain ⟨rfl, hdn, hpn⟩ := trodAll_nil r1
  obtain rfl : args = #[v0, v1] := by cases args; simp_all
  clear hA0 hval0 hA
  obtain ⟨c0, rfl, hc0⟩ := open_flat (ks := fun _ => .i64) (n := 3) (by kernel_rfl) (by kernel_rfl) (hval 0 59 v0 rfl rfl) h0
  obtain ⟨a1, rfl, rfl, rfl, w1⟩ := open_int Try.underlying2 (hval 1 2 v1 rfl rfl) h1
  exact (FnExactMixFor_walk (c0 0) (c0 1) (c0 2) (hc0 0 (by omega)) (hc0 1 (by omega)) (hc0 2 (by omega)) a1 (fit64 w1) W).mono fun e W' ⟨he, hb⟩ => ⟨_, he, law_post (by kernel_rfl) (by kernel_rfl) rfl rfl Try.underlying4 (fun ds h => by match ds, h with | [d0, d1], _ => rfl) hW' hb⟩
theorem over : Rows.fnExactMixForRow.holds Try.pinned (OpenSpec.ofChange Rows.fnExactMixForSpec) :=
  OpenClaim.holds_of_wide 6 Try.f6 rfl rfl rfl rfl rfl rfl rfl ⟨rfl, rfl, rfl, rfl, rfl⟩ rfl rfl rfl rfl rfl (by kernel_rfl) Try.func6 (by kernel_rfl)
    (of_decide_eq_true (by kernel_rfl)) (by unfold Func.isWrapper; rw [if_neg (of_decide_eq_false (by kernel_rfl))]; exact ⟨rfl, rfl⟩)
    (fun os started H enc _ => lifted os started H enc)
theorem proved : Rows.FnExactMixForSaid := over
#print axioms proved
end fnExactMixFor
end Go.Proofs.Ytigiooollonmjaa
