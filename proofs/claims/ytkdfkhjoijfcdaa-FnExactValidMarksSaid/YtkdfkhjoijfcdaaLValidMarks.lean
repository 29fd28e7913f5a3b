/- The statement FnExactValidMarks: for every sheet and every slice of marks the call returns true and both read as before. No condition. -/
import Derived.Test.YtkdfkhjoijfcdaaRows
import Derived.Test.YtkdfkhjoijfcdaaVMarkT
import Derived.Test.YtkdfkhjoijfcdaaShapes
import Derived.Test.YtkdfkhjoijfcdaaOpen
import Derived.Deep.RegionHeld3
namespace Go.Proofs.Ytkdfkhjoijfcdaa
open Go.RowKit Go.ChangeShapes Go.WideShapes Go.ChangeAt
set_option linter.unusedVariables false
set_option linter.unusedSimpArgs false
set_option maxRecDepth 100000
theorem vmB_set (c : Nat → Int) (n : Nat) (F : Nat → Mk) (G : Nat → Value) : vmB c n (setV F G) = vmB c n F := rfl
set_option maxHeartbeats 16000000 in
theorem FnExactValidMarks_walk (c : Nat → Int) (hfc : FitSheet c) (v : Value) (n : Nat) (F : Nat → Mk) (hn : n ≤ 9223372036854775807) (hF : ∀ k, k < n → MkIn (F k)) (w : World) (h : SlM w v n F) : Calls Try.prog 4 #[.agg (kc sk 266 c), v] w fun e w' => e = .returned (.bool true) ∧ Below w.heap.size w w' := by
  have HZ := Lib.hid (fun w2 h => szMarkS_any v n F hn hF w2 h)
  have HH := Lib.hid h
  have HF := Lib.hid hF
  clear h hF
  go_enter Try.func4, Try.ntmps4
  go_wp2_with (go_at_call 13; refine (HZ.out _ (HH.out.below (by repeat' (first | with_reducible exact Below.refl _ _ | with_reducible assumption | with_reducible refine Below.drew ?_ | with_reducible refine Below.drewN ?_ _ | with_reducible refine Below.alloc ?_ ?_ _ | with_reducible refine Below.setCell ?_ ?_ _ | with_reducible refine Below.setRow ?_ ?_ _ | with_reducible refine below_step (by assumption) ?_ ?_ | (show (_ : Nat) ≤ _; first | omega | (simp <;> omega)))) (Nat.le_refl _))).mono ?_; rintro e wz ⟨r, rfl, hr, hr2, hbz⟩; have r_hbz := keep_rowA hbz; have f_hbz := keep_frA hbz; have s_hbz := hbz.size; (try simp only [World.size_alloc, World.size_setCell, setRow_size, World.size_drew, size_drewNm] at r_hbz f_hbz s_hbz); rcases hr with hr | ⟨hr0, hn2, hF2⟩)
  · go_ret
    exact ⟨rfl, by repeat' (first | with_reducible exact Below.refl _ _ | with_reducible assumption | with_reducible refine Below.drew ?_ | with_reducible refine Below.drewN ?_ _ | with_reducible refine Below.alloc ?_ ?_ _ | with_reducible refine Below.setCell ?_ ?_ _ | with_reducible refine Below.setRow ?_ ?_ _ | with_reducible refine below_step (by assumption) ?_ ?_ | (show (_ : Nat) ≤ _; first | omega | (simp <;> omega)))⟩
  have HT := Lib.hid (fun v w h => toMarkS_any v n F hn2 hF2 w h)
  have HB := Lib.hid (show ∀ G : Nat → Value, ∀ k, k < n → MkIn (setV F G k) ∧ (setV F G k).n ≤ 1048576 from fun G k hk => ⟨HF.out k hk, hF2 k hk⟩)
  have HS := Lib.hid (fun v b G w h => vmB_set c n F G ▸ sValidMarks_any c hfc v n b (setV F G) hn2 (HB.out G) w h)
  have HI := Lib.hid (fun v b G w h => vmB_set c n F G ▸ iValidMarks_any c hfc v n b (setV F G) hn2 (HB.out G) w h)
  have HE := Lib.hid (fun v1 v2 b1 b2 G1 G2 w h1 h2 => eqMarkS_own v1 v2 n b1 b2 F G1 G2 (by omega) hF2 w h1 h2)
  clear hF2
  generalize vmB c n F = z at *
  go_wp2_with (first | (go_at_call 8; refine (toSheet_any _ _).mono ?_; rintro e w1 ⟨rfl, hb1⟩; have r1 := keep_rowA hb1; have f1 := keep_frA hb1; have s1 := hb1.size; (try simp only [World.size_alloc, World.size_setCell, setRow_size, World.size_drew, size_drewNm] at r1 f1 s1)) | (go_at_call 15; refine (HT.out _ _ (HH.out.below (by repeat' (first | with_reducible exact Below.refl _ _ | with_reducible assumption | with_reducible refine Below.drew ?_ | with_reducible refine Below.drewN ?_ _ | with_reducible refine Below.alloc ?_ ?_ _ | with_reducible refine Below.setCell ?_ ?_ _ | with_reducible refine Below.setRow ?_ ?_ _ | with_reducible refine below_step (by assumption) ?_ ?_ | (show (_ : Nat) ≤ _; first | omega | (simp <;> omega)))) (Nat.le_refl _))).mono ?_; rintro e wa ⟨va, GA, rfl, ho, hbwa⟩; have r_hbwa := keep_rowA hbwa; have f_hbwa := keep_frA hbwa; have s_hbwa := hbwa.size; (try simp only [World.size_alloc, World.size_setCell, setRow_size, World.size_drew, size_drewNm] at r_hbwa f_hbwa s_hbwa); have HA := Lib.hid ho; clear ho) | (go_at_call 14; refine (HS.out _ _ _ _ (HA.out.below (by repeat' (first | with_reducible exact Below.refl _ _ | with_reducible assumption | with_reducible refine Below.drew ?_ | with_reducible refine Below.drewN ?_ _ | with_reducible refine Below.alloc ?_ ?_ _ | with_reducible refine Below.setCell ?_ ?_ _ | with_reducible refine Below.setRow ?_ ?_ _ | with_reducible refine below_step (by assumption) ?_ ?_ | (show (_ : Nat) ≤ _; first | omega | (simp <;> omega)))) (Nat.le_refl _))).mono ?_; rintro e wb ⟨rfl, hbb⟩; have r_hbb := keep_rowA hbb; have f_hbb := keep_frA hbb; have s_hbb := hbb.size; (try simp only [World.size_alloc, World.size_setCell, setRow_size, World.size_drew, size_drewNm] at r_hbb f_hbb s_hbb)))
  go_wp2_with (go_at_call 16; refine (HI.out _ _ _ _ (HA.out.below (by repeat' (first | with_reducible exact Below.refl _ _ | with_reducible assumption | with_reducible refine Below.drew ?_ | with_reducible refine Below.drewN ?_ _ | with_reducible refine Below.alloc ?_ ?_ _ | with_reducible refine Below.setCell ?_ ?_ _ | with_reducible refine Below.setRow ?_ ?_ _ | with_reducible refine below_step (by assumption) ?_ ?_ | (show (_ : Nat) ≤ _; first | omega | (simp <;> omega)))) (Nat.le_refl _))).mono ?_; rintro e wc ⟨rfl, hbc⟩; have r_hbc := keep_rowA hbc; have f_hbc := keep_frA hbc; have s_hbc := hbc.size; (try simp only [World.size_alloc, World.size_setCell, setRow_size, World.size_drew, size_drewNm] at r_hbc f_hbc s_hbc))
  go_wp2_with (go_at_call 15; refine (HT.out _ _ (HH.out.below (by repeat' (first | with_reducible exact Below.refl _ _ | with_reducible assumption | with_reducible refine Below.drew ?_ | with_reducible refine Below.drewN ?_ _ | with_reducible refine Below.alloc ?_ ?_ _ | with_reducible refine Below.setCell ?_ ?_ _ | with_reducible refine Below.setRow ?_ ?_ _ | with_reducible refine below_step (by assumption) ?_ ?_ | (show (_ : Nat) ≤ _; first | omega | (simp <;> omega)))) (Nat.le_refl _))).mono ?_; rintro e wd ⟨vd, GD, rfl, ho, hbwd⟩; have r_hbwd := keep_rowA hbwd; have f_hbwd := keep_frA hbwd; have s_hbwd := hbwd.size; (try simp only [World.size_alloc, World.size_setCell, setRow_size, World.size_drew, size_drewNm] at r_hbwd f_hbwd s_hbwd); have HD := Lib.hid ho; clear ho)
  go_wp2_with (go_at_call 17; refine (HE.out _ _ _ _ _ _ _ (HA.out.below (by repeat' (first | with_reducible exact Below.refl _ _ | with_reducible assumption | with_reducible refine Below.drew ?_ | with_reducible refine Below.drewN ?_ _ | with_reducible refine Below.alloc ?_ ?_ _ | with_reducible refine Below.setCell ?_ ?_ _ | with_reducible refine Below.setRow ?_ ?_ _ | with_reducible refine below_step (by assumption) ?_ ?_ | (show (_ : Nat) ≤ _; first | omega | (simp <;> omega)))) (Nat.le_refl _)) (HD.out.below (by repeat' (first | with_reducible exact Below.refl _ _ | with_reducible assumption | with_reducible refine Below.drew ?_ | with_reducible refine Below.drewN ?_ _ | with_reducible refine Below.alloc ?_ ?_ _ | with_reducible refine Below.setCell ?_ ?_ _ | with_reducible refine Below.setRow ?_ ?_ _ | with_reducible refine below_step (by assumption) ?_ ?_ | (show (_ : Nat) ≤ _; first | omega | (simp <;> omega)))) (Nat.le_refl _))).mono ?_; rintro e we ⟨rfl, hbe⟩; have r_hbe := keep_rowA hbe; have f_hbe := keep_frA hbe; have s_hbe := hbe.size; (try simp only [World.size_alloc, World.size_setCell, setRow_size, World.size_drew, size_drewNm] at r_hbe f_hbe s_hbe))
  go_ret
  exact ⟨rfl, by repeat' (first | with_reducible exact Below.refl _ _ | with_reducible assumption | with_reducible refine Below.drew ?_ | with_reducible refine Below.drewN ?_ _ | with_reducible refine Below.alloc ?_ ?_ _ | with_reducible refine Below.setCell ?_ ?_ _ | with_reducible refine Below.setRow ?_ ?_ _ | with_reducible refine below_step (by assumption) ?_ ?_ | (show (_ : Nat) ≤ _; first | omega | (simp <;> omega)))⟩
namespace fnExactValidMarks
theorem own : ownKnob Try.prog.godebug = none := by kernel_rfl
set_option maxRecDepth 100000 in
theorem lifted (os : Os) (started : os.Started) (H : Type) (enc : TypeId × Value → H) :
    ReturnsInHanded {} Try.checked os 4 .any (Rows.fnExactValidMarksSpec.pre6 enc Try.prog Try.f4 Rows.fnExactValidMarksRow.domain false) (Rows.fnExactValidMarksSpec.post enc Try.prog Try.f4 false true false false) := by
  refine returnsInHanded_of_change (C := Try.checked) own started (by kernel_rfl) Try.func4
    (ChangeSpec.witness6 (enc := enc) (C := Try.checked) false ⟨#[], #[.agg (kc sk 266 fun _ => 0), .slice none 0 0], []⟩ 8 (by kernel_rfl) (by kernel_rfl) (by kernel_rfl) (by kernel_rfl)) ?_
  intro W base args ds gs before hval0 hW hcnd _
  have hval : ∀ (j : Nat) t v, Try.f4.params[j]? = some t → args[j]? = some v → Value.okWide Try.prog W .any base t v := hval0
  have hW' := hW
  obtain ⟨p, q, hA0, hV, hpq, hfz, hnd⟩ := hW
  have hA : DataW.TrodAll enc Try.prog W 0 (fun _ => true) true Try.f4.params.toList args.toList ds p := hA0
  rw [Try.params4] at hA hval
  obtain ⟨v0, vs0, d0, ds0, p0, q0, hargs, hd0, hp0, h0, r0⟩ := trodAll_cons hA
  obtain ⟨v1, vs1, d1, ds1, p1, q1, rfl, hd1, hp1, h1, r1⟩ := trodAll_cons r0
  obtain ⟨rfl, hdn, hpn⟩ := trodAll_nil r1
  obtain rfl : args = #[v0, v1] := by cases args; simp_all
  clear hA0 hval0 hA
  obtain ⟨c0, rfl, hc0⟩ := open_flat (ks := sk) (n := 266) (by kernel_rfl) (by kernel_rfl) (hval 0 32 v0 rfl rfl) h0
  obtain ⟨n1, F1, hs1, hn1, hw1⟩ := open_slM Try.underlying44 Try.underlying66 (by kernel_rfl) Try.underlying64 (by kernel_rfl) rfl rfl (by kernel_rfl) (by kernel_rfl) (by kernel_rfl) (hval 1 44 v1 rfl rfl) h1
  exact (FnExactValidMarks_walk c0 (fitSheet hc0) v1 n1 F1 hn1 hw1 W hs1).mono fun e W' ⟨he, hb⟩ => ⟨_, he, law_post (by kernel_rfl) (by kernel_rfl) rfl rfl Try.underlying4 (fun ds h => by match ds, h with | [d0, d1], _ => rfl) hW' hb⟩
theorem over : Rows.fnExactValidMarksRow.holds Try.pinned (OpenSpec.ofChange Rows.fnExactValidMarksSpec) :=
  OpenClaim.holds_of_wide 4 Try.f4 rfl rfl rfl rfl rfl rfl rfl ⟨rfl, rfl, rfl, rfl, rfl⟩ rfl rfl rfl rfl rfl (by kernel_rfl) Try.func4 (by kernel_rfl)
    (of_decide_eq_true (by kernel_rfl)) (by unfold Func.isWrapper; rw [if_neg (of_decide_eq_false (by kernel_rfl))]; exact ⟨rfl, rfl⟩)
    (fun os started H enc _ => lifted os started H enc)
theorem proved : Rows.FnExactValidMarksSaid := over
#print axioms proved
end fnExactValidMarks
end Go.Proofs.Ytkdfkhjoijfcdaa
