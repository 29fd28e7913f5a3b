/- The statement FnExactWettestSheet: for every slice of sheets the call returns true and it reads as before. No condition. Written by gen_samestack.py. -/
import Derived.Test.YtfcffihenmjafaaRows
import Derived.Test.YtfcffihenmjafaaWettest
namespace Go.Proofs.Ytfcffihenmjafaa
open Go.RowKit Go.ChangeShapes Go.WideShapes Go.ChangeAt
set_option linter.unusedVariables false
set_option linter.unusedSimpArgs false
set_option maxRecDepth 100000
set_option maxHeartbeats 8000000 in
theorem FnExactWettestSheet_walk (v1 : Value) (n : Nat) (F : Nat → Nat → Int) (hn : n ≤ 9223372036854775807) (hF : ∀ k, k < n → FitRow sk 266 (F k)) (w : World) (h1 : SlV 266 w v1 n (fun k j => .int (sk j) (F k j))) : Calls Try.prog 4 #[v1] w fun e w' => e = .returned (.bool true) ∧ Below w.heap.size w w' := by
  have HZ1 := Lib.hid (fun w2 h => szStack_any v1 n (shV F) 1048576 (by omega) hn w2 h)
  have H1 := Lib.hid (show SlV 266 w v1 n (shV F) from h1)
  clear h1
  by_cases hbig : 1048576 < (n : Int)
  · rw [if_pos hbig] at HZ1
    clear hF
    go_enter Try.func4, Try.ntmps4
    go_wp2_with ((go_at_call 17; with_reducible refine (HZ1.out _ (H1.out.below (by repeat' (first | with_reducible exact Below.refl _ _ | with_reducible assumption | with_reducible refine Below.drew ?_ | with_reducible refine Below.drewN ?_ _ | with_reducible refine Below.alloc ?_ ?_ _ | with_reducible refine Below.setCell ?_ ?_ _ | with_reducible refine Below.setRow ?_ ?_ _ | with_reducible refine below_step (by assumption) ?_ ?_ | (show (_ : Nat) ≤ _; first | omega | (simp <;> omega)))) (Nat.le_refl _))).mono ?_; rintro e w1 ⟨rfl, hb1⟩; have r1 := keep_rowA hb1; have f1 := keep_frA hb1; have s1 := hb1.size; (try simp only [World.size_alloc, World.size_setCell, setRow_size, World.size_drew, size_drewNm] at r1 f1 s1)))
    go_ret
    exact ⟨rfl, by repeat' (first | with_reducible exact Below.refl _ _ | with_reducible assumption | with_reducible refine Below.drew ?_ | with_reducible refine Below.drewN ?_ _ | with_reducible refine Below.alloc ?_ ?_ _ | with_reducible refine Below.setCell ?_ ?_ _ | with_reducible refine Below.setRow ?_ ?_ _ | with_reducible refine below_step (by assumption) ?_ ?_ | (show (_ : Nat) ≤ _; first | omega | (simp <;> omega)))⟩
  rw [if_neg hbig] at HZ1
  have hn2 : n ≤ 1048576 := by omega
  have hn3 : n < 1099511627776 := by omega
  have HS := Lib.hid (fun v w h => sWettest_any v n F hn2 hF w h)
  have HI := Lib.hid (fun v w h => iWettest_any v n F hn2 hF w h)
  clear hF
  obtain ⟨r1, r2, r3, hrv⟩ := wetV_is n F
  rw [hrv] at HS HI
  clear hrv
  go_enter Try.func4, Try.ntmps4
  go_wp2_with (go_at_call 17; with_reducible refine (HZ1.out _ (H1.out.below (by repeat' (first | with_reducible exact Below.refl _ _ | with_reducible assumption | with_reducible refine Below.drew ?_ | with_reducible refine Below.drewN ?_ _ | with_reducible refine Below.alloc ?_ ?_ _ | with_reducible refine Below.setCell ?_ ?_ _ | with_reducible refine Below.setRow ?_ ?_ _ | with_reducible refine below_step (by assumption) ?_ ?_ | (show (_ : Nat) ≤ _; first | omega | (simp <;> omega)))) (Nat.le_refl _))).mono ?_; rintro e w1 ⟨rfl, hb1⟩; have r_hb1 := keep_rowA hb1; have f_hb1 := keep_frA hb1; have s_hb1 := hb1.size; (try simp only [World.size_alloc, World.size_setCell, setRow_size, World.size_drew, size_drewNm] at r_hb1 f_hb1 s_hb1))
  go_wp2_with (go_at_call 19; with_reducible refine (toStack_any _ n F hn2 _ (H1.out.below (by repeat' (first | with_reducible exact Below.refl _ _ | with_reducible assumption | with_reducible refine Below.drew ?_ | with_reducible refine Below.drewN ?_ _ | with_reducible refine Below.alloc ?_ ?_ _ | with_reducible refine Below.setCell ?_ ?_ _ | with_reducible refine Below.setRow ?_ ?_ _ | with_reducible refine below_step (by assumption) ?_ ?_ | (show (_ : Nat) ≤ _; first | omega | (simp <;> omega)))) (Nat.le_refl _))).mono ?_; rintro e w2 ⟨va, rfl, ho, hb2⟩; have r_hb2 := keep_rowA hb2; have f_hb2 := keep_frA hb2; have s_hb2 := hb2.size; (try simp only [World.size_alloc, World.size_setCell, setRow_size, World.size_drew, size_drewNm] at r_hb2 f_hb2 s_hb2); have Hva := Lib.hid ho; clear ho)
  go_wp2_with (go_at_call 18; with_reducible refine (HS.out _ _ (Hva.out.below (by repeat' (first | with_reducible exact Below.refl _ _ | with_reducible assumption | with_reducible refine Below.drew ?_ | with_reducible refine Below.drewN ?_ _ | with_reducible refine Below.alloc ?_ ?_ _ | with_reducible refine Below.setCell ?_ ?_ _ | with_reducible refine Below.setRow ?_ ?_ _ | with_reducible refine below_step (by assumption) ?_ ?_ | (show (_ : Nat) ≤ _; first | omega | (simp <;> omega)))) (Nat.le_refl _)).slV).mono ?_; rintro e w3 ⟨rfl, hb3⟩; have r_hb3 := keep_rowA hb3; have f_hb3 := keep_frA hb3; have s_hb3 := hb3.size; (try simp only [World.size_alloc, World.size_setCell, setRow_size, World.size_drew, size_drewNm] at r_hb3 f_hb3 s_hb3); clear Hva)
  go_wp2_with (go_at_call 19; with_reducible refine (toStack_any _ n F hn2 _ (H1.out.below (by repeat' (first | with_reducible exact Below.refl _ _ | with_reducible assumption | with_reducible refine Below.drew ?_ | with_reducible refine Below.drewN ?_ _ | with_reducible refine Below.alloc ?_ ?_ _ | with_reducible refine Below.setCell ?_ ?_ _ | with_reducible refine Below.setRow ?_ ?_ _ | with_reducible refine below_step (by assumption) ?_ ?_ | (show (_ : Nat) ≤ _; first | omega | (simp <;> omega)))) (Nat.le_refl _))).mono ?_; rintro e w4 ⟨vc, rfl, ho, hb4⟩; have r_hb4 := keep_rowA hb4; have f_hb4 := keep_frA hb4; have s_hb4 := hb4.size; (try simp only [World.size_alloc, World.size_setCell, setRow_size, World.size_drew, size_drewNm] at r_hb4 f_hb4 s_hb4); have Hvc := Lib.hid ho; clear ho)
  go_wp2_with (go_at_call 20; with_reducible refine (HI.out _ _ (Hvc.out.below (by repeat' (first | with_reducible exact Below.refl _ _ | with_reducible assumption | with_reducible refine Below.drew ?_ | with_reducible refine Below.drewN ?_ _ | with_reducible refine Below.alloc ?_ ?_ _ | with_reducible refine Below.setCell ?_ ?_ _ | with_reducible refine Below.setRow ?_ ?_ _ | with_reducible refine below_step (by assumption) ?_ ?_ | (show (_ : Nat) ≤ _; first | omega | (simp <;> omega)))) (Nat.le_refl _)).slV).mono ?_; rintro e w5 ⟨rfl, hb5⟩; have r_hb5 := keep_rowA hb5; have f_hb5 := keep_frA hb5; have s_hb5 := hb5.size; (try simp only [World.size_alloc, World.size_setCell, setRow_size, World.size_drew, size_drewNm] at r_hb5 f_hb5 s_hb5))
  go_wp2_with (go_at_call 19; with_reducible refine (toStack_any _ n F hn2 _ (H1.out.below (by repeat' (first | with_reducible exact Below.refl _ _ | with_reducible assumption | with_reducible refine Below.drew ?_ | with_reducible refine Below.drewN ?_ _ | with_reducible refine Below.alloc ?_ ?_ _ | with_reducible refine Below.setCell ?_ ?_ _ | with_reducible refine Below.setRow ?_ ?_ _ | with_reducible refine below_step (by assumption) ?_ ?_ | (show (_ : Nat) ≤ _; first | omega | (simp <;> omega)))) (Nat.le_refl _))).mono ?_; rintro e w6 ⟨ve, rfl, ho, hb6⟩; have r_hb6 := keep_rowA hb6; have f_hb6 := keep_frA hb6; have s_hb6 := hb6.size; (try simp only [World.size_alloc, World.size_setCell, setRow_size, World.size_drew, size_drewNm] at r_hb6 f_hb6 s_hb6); have Hve := Lib.hid ho; clear ho)
  go_wp2_with (go_at_call 21; with_reducible refine (eqStack_own _ _ n _ _ F hn3 _ (Hvc.out.below (by repeat' (first | with_reducible exact Below.refl _ _ | with_reducible assumption | with_reducible refine Below.drew ?_ | with_reducible refine Below.drewN ?_ _ | with_reducible refine Below.alloc ?_ ?_ _ | with_reducible refine Below.setCell ?_ ?_ _ | with_reducible refine Below.setRow ?_ ?_ _ | with_reducible refine below_step (by assumption) ?_ ?_ | (show (_ : Nat) ≤ _; first | omega | (simp <;> omega)))) (Nat.le_refl _)) (Hve.out.below (by repeat' (first | with_reducible exact Below.refl _ _ | with_reducible assumption | with_reducible refine Below.drew ?_ | with_reducible refine Below.drewN ?_ _ | with_reducible refine Below.alloc ?_ ?_ _ | with_reducible refine Below.setCell ?_ ?_ _ | with_reducible refine Below.setRow ?_ ?_ _ | with_reducible refine below_step (by assumption) ?_ ?_ | (show (_ : Nat) ≤ _; first | omega | (simp <;> omega)))) (Nat.le_refl _))).mono ?_; rintro e w7 ⟨rfl, hb7⟩; have r_hb7 := keep_rowA hb7; have f_hb7 := keep_frA hb7; have s_hb7 := hb7.size; (try simp only [World.size_alloc, World.size_setCell, setRow_size, World.size_drew, size_drewNm] at r_hb7 f_hb7 s_hb7))
  go_ret
  exact ⟨rfl, by repeat' (first | with_reducible exact Below.refl _ _ | with_reducible assumption | with_reducible refine Below.drew ?_ | with_reducible refine Below.drewN ?_ _ | with_reducible refine Below.alloc ?_ ?_ _ | with_reducible refine Below.setCell ?_ ?_ _ | with_reducible refine Below.setRow ?_ ?_ _ | with_reducible refine below_step (by assumption) ?_ ?_ | (show (_ : Nat) ≤ _; first | omega | (simp <;> omega)))⟩
namespace fnExactWettestSheet
theorem own : ownKnob Try.prog.godebug = none := by kernel_rfl
set_option maxRecDepth 100000 in
theorem lifted (os : Os) (started : os.Started) (H : Type) (enc : TypeId × Value → H) :
    ReturnsInHanded {} Try.checked os 4 .any (Rows.fnExactWettestSheetSpec.pre6 enc Try.prog Try.f4 Rows.fnExactWettestSheetRow.domain false) (Rows.fnExactWettestSheetSpec.post enc Try.prog Try.f4 false true false false) := by
  refine returnsInHanded_of_change (C := Try.checked) own started (by kernel_rfl) Try.func4
    (ChangeSpec.witness6 (enc := enc) (C := Try.checked) false ⟨#[], #[.slice none 0 0], []⟩ 8 (by kernel_rfl) (by kernel_rfl) (by kernel_rfl) (by kernel_rfl)) ?_
  intro W base args ds gs before hval0 hW hcnd _
  have hval : ∀ (j : Nat) t v, Try.f4.params[j]? = some t → args[j]? = some v → Value.okWide Try.prog W .any base t v := hval0
  have hW' := hW
  obtain ⟨p, q, hA0, hV, hpq, hfz, hnd⟩ := hW
  have hA : DataW.TrodAll enc Try.prog W 0 (fun _ => true) true Try.f4.params.toList args.toList ds p := hA0
  rw [Try.params4] at hA hval
  obtain ⟨v0, vs0, d0, ds0, p0, q0, hargs, hd0, hp0, h0, r0⟩ := trodAll_cons hA
  obtain ⟨rfl, hdn, hpn⟩ := trodAll_nil r0
  obtain rfl : args = #[v0] := by cases args; simp_all
  clear hA0 hval0 hA
  obtain ⟨n0, f0, hs0, hn0, hw0⟩ := open_slV (ks := sk) (s := 266) Try.underlying41 (by kernel_rfl) (by decide) (hval 0 41 v0 rfl rfl) h0
  exact (FnExactWettestSheet_walk v0 n0 f0 hn0 hw0 W hs0).mono fun e W' ⟨he, hb⟩ => ⟨_, he, law_post (by kernel_rfl) (by kernel_rfl) rfl rfl Try.underlying4 (fun ds h => by match ds, h with | [d0], _ => rfl) hW' hb⟩
theorem over : Rows.fnExactWettestSheetRow.holds Try.pinned (OpenSpec.ofChange Rows.fnExactWettestSheetSpec) :=
  OpenClaim.holds_of_wide 4 Try.f4 rfl rfl rfl rfl rfl rfl rfl ⟨rfl, rfl, rfl, rfl, rfl⟩ rfl rfl rfl rfl rfl (by kernel_rfl) Try.func4 (by kernel_rfl)
    (of_decide_eq_true (by kernel_rfl)) (by unfold Func.isWrapper; rw [if_neg (of_decide_eq_false (by kernel_rfl))]; exact ⟨rfl, rfl⟩)
    (fun os started H enc _ => lifted os started H enc)
theorem proved : Rows.FnExactWettestSheetSaid := over
#print axioms proved
end fnExactWettestSheet
end Go.Proofs.Ytfcffihenmjafaa
