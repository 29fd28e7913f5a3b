/- The statement FnExactPathText: for every slice of spots the call returns true and the slice reads as before. The three laid tables are tied to the program's text. -/
import Derived.Test.YtbnhhjjhjjmmjaaDoorCards
import Derived.Test.YtbnhhjjhjjmmjaaDoorTie
import Derived.Test.YtbnhhjjhjjmmjaaDoorPTextI
import Derived.Test.YtbnhhjjhjjmmjaaDoorOpenSl
import Derived.LaidMore
import Derived.Lay
import Derived.SevenTiedAt
import Derived.Stop.Joined
namespace Go.Proofs.YtbnhhjjhjjmmjaaDoor
open Go.RowKit Go.ChangeShapes Go.WideShapes Go.ChangeAt
set_option linter.unusedVariables false
set_option linter.unusedSimpArgs false
set_option maxRecDepth 100000
set_option maxHeartbeats 8000000 in
theorem FnExactPathText_walk (v : Value) (n : Nat) (f : Nat → Int) (hn : n ≤ 9223372036854775807) (hw : ∀ j, j < n * 2 → (Lit.int .i8 (f j)).wf = true) (w : World) (h : SlA .i8 2 w v n f) : Calls Tryd.prog 4 #[v] w fun e w' => e = .returned (.bool true) ∧ Below w.heap.size w w' := by
  have hf : ∀ j, j < n * 2 → -128 ≤ f j ∧ f j ≤ 127 := fun j hj => bd_i8 (hw j hj)
  have HZ := Lib.hid (szSpotS_any v n f hn w h)
  have HH := Lib.hid h
  by_cases hbig : 1048576 < (n : Int)
  · rw [if_pos hbig] at HZ
    clear h
    go_enter Tryd.func4, Tryd.ntmps4
    go_wp2_with ((go_at_call 16; refine (HZ.out).mono ?_; rintro e w1 ⟨rfl, hb1⟩; have r1 := keep_rowA hb1; have f1 := keep_frA hb1; have s1 := hb1.size; (try simp only [World.size_alloc, World.size_setCell, setRow_size, World.size_drew, size_drewNm] at r1 f1 s1)))
    go_ret
    exact ⟨rfl, by repeat' (first | with_reducible exact Below.refl _ _ | with_reducible assumption | with_reducible refine Below.drew ?_ | with_reducible refine Below.drewN ?_ _ | with_reducible refine Below.alloc ?_ ?_ _ | with_reducible refine Below.setCell ?_ ?_ _ | with_reducible refine Below.setRow ?_ ?_ _ | with_reducible refine below_step (by assumption) ?_ ?_ | (show (_ : Nat) ≤ _; first | omega | (simp <;> omega)))⟩
  rw [if_neg hbig] at HZ
  have hn2 : n ≤ 1048576 := by omega
  have hm : n < 1099511627776 := by omega
  have HS := Lib.hid (fun v w h => sPathText_any v n f hn2 hf w h)
  have HI := Lib.hid (fun a0 w h => iPathText_any a0 n n (Nat.le_refl _) f hn2 hf w h)
  clear h hn hf hw
  go_enter Tryd.func4, Tryd.ntmps4
  go_wp2_with ((go_at_call 16; refine (HZ.out).mono ?_; rintro e w1 ⟨rfl, hb1⟩; have r1 := keep_rowA hb1; have f1 := keep_frA hb1; have s1 := hb1.size; (try simp only [World.size_alloc, World.size_setCell, setRow_size, World.size_drew, size_drewNm] at r1 f1 s1)))
  go_wp2_with (go_at_call 18; refine (toSpotS_full v n f hn2 _ (HH.out.below (by repeat' (first | with_reducible exact Below.refl _ _ | with_reducible assumption | with_reducible refine Below.drew ?_ | with_reducible refine Below.drewN ?_ _ | with_reducible refine Below.alloc ?_ ?_ _ | with_reducible refine Below.setCell ?_ ?_ _ | with_reducible refine Below.setRow ?_ ?_ _ | with_reducible refine below_step (by assumption) ?_ ?_ | (show (_ : Nat) ≤ _; first | omega | (simp <;> omega)))) (Nat.le_refl _))).mono ?_; rintro e w1 ⟨g1, rfl, ho, hb1⟩; have r_hb1 := keep_rowA hb1; have f_hb1 := keep_frA hb1; have s_hb1 := hb1.size; (try simp only [World.size_alloc, World.size_setCell, setRow_size, World.size_drew, size_drewNm] at r_hb1 f_hb1 s_hb1); have Hv1 := Lib.hid ho; clear ho)
  go_wp2_with (go_at_call 17; refine (HS.out _ _ (Hv1.out.below (by repeat' (first | with_reducible exact Below.refl _ _ | with_reducible assumption | with_reducible refine Below.drew ?_ | with_reducible refine Below.drewN ?_ _ | with_reducible refine Below.alloc ?_ ?_ _ | with_reducible refine Below.setCell ?_ ?_ _ | with_reducible refine Below.setRow ?_ ?_ _ | with_reducible refine below_step (by assumption) ?_ ?_ | (show (_ : Nat) ≤ _; first | omega | (simp <;> omega)))) (Nat.le_refl _)).slA).mono ?_; rintro e w2 ⟨rfl, hb2⟩; have r_hb2 := keep_rowA hb2; have f_hb2 := keep_frA hb2; have s_hb2 := hb2.size; (try simp only [World.size_alloc, World.size_setCell, setRow_size, World.size_drew, size_drewNm] at r_hb2 f_hb2 s_hb2); clear Hv1)
  go_wp2_with (go_at_call 18; refine (toSpotS_full v n f hn2 _ (HH.out.below (by repeat' (first | with_reducible exact Below.refl _ _ | with_reducible assumption | with_reducible refine Below.drew ?_ | with_reducible refine Below.drewN ?_ _ | with_reducible refine Below.alloc ?_ ?_ _ | with_reducible refine Below.setCell ?_ ?_ _ | with_reducible refine Below.setRow ?_ ?_ _ | with_reducible refine below_step (by assumption) ?_ ?_ | (show (_ : Nat) ≤ _; first | omega | (simp <;> omega)))) (Nat.le_refl _))).mono ?_; rintro e w3 ⟨g2, rfl, ho, hb3⟩; have r_hb3 := keep_rowA hb3; have f_hb3 := keep_frA hb3; have s_hb3 := hb3.size; (try simp only [World.size_alloc, World.size_setCell, setRow_size, World.size_drew, size_drewNm] at r_hb3 f_hb3 s_hb3); have Hv2 := Lib.hid ho; clear ho)
  go_wp2_with (go_at_call 19; refine (HI.out _ _ (Hv2.out.below (by repeat' (first | with_reducible exact Below.refl _ _ | with_reducible assumption | with_reducible refine Below.drew ?_ | with_reducible refine Below.drewN ?_ _ | with_reducible refine Below.alloc ?_ ?_ _ | with_reducible refine Below.setCell ?_ ?_ _ | with_reducible refine Below.setRow ?_ ?_ _ | with_reducible refine below_step (by assumption) ?_ ?_ | (show (_ : Nat) ≤ _; first | omega | (simp <;> omega)))) (Nat.le_refl _)).slA).mono ?_; rintro e w4 ⟨rfl, hb4⟩; have r_hb4 := keep_rowA hb4; have f_hb4 := keep_frA hb4; have s_hb4 := hb4.size; (try simp only [World.size_alloc, World.size_setCell, setRow_size, World.size_drew, size_drewNm] at r_hb4 f_hb4 s_hb4))
  go_wp2_with (go_at_call 18; refine (toSpotS_full v n f hn2 _ (HH.out.below (by repeat' (first | with_reducible exact Below.refl _ _ | with_reducible assumption | with_reducible refine Below.drew ?_ | with_reducible refine Below.drewN ?_ _ | with_reducible refine Below.alloc ?_ ?_ _ | with_reducible refine Below.setCell ?_ ?_ _ | with_reducible refine Below.setRow ?_ ?_ _ | with_reducible refine below_step (by assumption) ?_ ?_ | (show (_ : Nat) ≤ _; first | omega | (simp <;> omega)))) (Nat.le_refl _))).mono ?_; rintro e w6 ⟨g3, rfl, ho, hb6⟩; have r_hb6 := keep_rowA hb6; have f_hb6 := keep_frA hb6; have s_hb6 := hb6.size; (try simp only [World.size_alloc, World.size_setCell, setRow_size, World.size_drew, size_drewNm] at r_hb6 f_hb6 s_hb6); have Hv3 := Lib.hid ho; clear ho)
  go_wp2_with (go_at_call 20; refine (eqSpotS_own _ _ n _ _ _ hm _ (Hv2.out.below (by repeat' (first | with_reducible exact Below.refl _ _ | with_reducible assumption | with_reducible refine Below.drew ?_ | with_reducible refine Below.drewN ?_ _ | with_reducible refine Below.alloc ?_ ?_ _ | with_reducible refine Below.setCell ?_ ?_ _ | with_reducible refine Below.setRow ?_ ?_ _ | with_reducible refine below_step (by assumption) ?_ ?_ | (show (_ : Nat) ≤ _; first | omega | (simp <;> omega)))) (Nat.le_refl _)) (Hv3.out.below (by repeat' (first | with_reducible exact Below.refl _ _ | with_reducible assumption | with_reducible refine Below.drew ?_ | with_reducible refine Below.drewN ?_ _ | with_reducible refine Below.alloc ?_ ?_ _ | with_reducible refine Below.setCell ?_ ?_ _ | with_reducible refine Below.setRow ?_ ?_ _ | with_reducible refine below_step (by assumption) ?_ ?_ | (show (_ : Nat) ≤ _; first | omega | (simp <;> omega)))) (Nat.le_refl _))).mono ?_; rintro e w7 ⟨rfl, hb7⟩; have r_hb7 := keep_rowA hb7; have f_hb7 := keep_frA hb7; have s_hb7 := hb7.size; (try simp only [World.size_alloc, World.size_setCell, setRow_size, World.size_drew, size_drewNm] at r_hb7 f_hb7 s_hb7))
  go_ret
  exact ⟨rfl, by repeat' (first | with_reducible exact Below.refl _ _ | with_reducible assumption | with_reducible refine Below.drew ?_ | with_reducible refine Below.drewN ?_ _ | with_reducible refine Below.alloc ?_ ?_ _ | with_reducible refine Below.setCell ?_ ?_ _ | with_reducible refine Below.setRow ?_ ?_ _ | with_reducible refine below_step (by assumption) ?_ ?_ | (show (_ : Nat) ≤ _; first | omega | (simp <;> omega)))⟩
namespace fnExactPathText
theorem own : ownKnob Tryd.prog.godebug = none := by kernel_rfl
set_option maxRecDepth 100000 in
theorem lifted (os : Os) (started : os.Started) (H : Type) (enc : TypeId × Value → H) :
    ReturnsInHanded {} Tryd.checked os 4 .any (fun w args => (Rows.fnExactPathTextSpec.pre enc Tryd.prog Tryd.f4 Rows.fnExactPathTextRow.domain false w args ∧ laidMetH Tryd.prog Rows.fnExactPathTextRow.laid w) ∧ sizedMet enc Tryd.prog Tryd.f4 (OpenSpec.ofChange Rows.fnExactPathTextSpec) false w args)
      (Rows.fnExactPathTextSpec.post enc Tryd.prog Tryd.f4 false true false false) := by
  refine returnsInHanded_of_change_and (C := Tryd.checked) (X := fun w _ => laidMetH Tryd.prog Rows.fnExactPathTextRow.laid w) (fun _ _ _ hh h => h.of_heap hh) own started (by kernel_rfl) Tryd.func4
    (ChangeSpec.witness_shaped (enc := enc) (C := Tryd.checked) (os := os) (X := fun w _ => laidMetH Tryd.prog Rows.fnExactPathTextRow.laid w) false (World.laidAll Tryd.prog os Rows.fnExactPathTextRow.laid) #[.slice none 0 0] 8 (World.laidAll_os _ _ _)
      (World.shaped_of_ZipB (by kernel_rfl) (by kernel_rfl)) (by kernel_rfl) (by kernel_rfl) (by kernel_rfl)
      (by rw [MakeChecks.laidMetH_plain _ _ _ (by kernel_rfl)]; exact laidMet_laidAll _ (by kernel_rfl) (by kernel_rfl))) ?_
  intro W base args ds gs before hval0 hW hcnd _ hL _
  have hval : ∀ (j : Nat) t v, Tryd.f4.params[j]? = some t → args[j]? = some v → Value.okWide Tryd.prog W .any base t v := hval0
  have hW' := hW
  obtain ⟨p, q, hA0, hV, hpq, hfz, hnd⟩ := hW
  have hA : DataW.TrodAll enc Tryd.prog W 0 (fun _ => true) true Tryd.f4.params.toList args.toList ds p := hA0
  rw [Tryd.params4] at hA hval
  obtain ⟨v0, vs0, d0, ds0, p0, q0, hargs, hd0, hp0, h0, r0⟩ := trodAll_cons hA
  obtain ⟨rfl, hdn, hpn⟩ := trodAll_nil r0
  obtain rfl : args = #[v0] := by cases args; simp_all
  clear hA0 hval0 hA
  obtain ⟨n0, f0, hs0, hn0, hw0⟩ := open_slA (k := .i8) (s := 2) Tryd.underlying23 (by kernel_rfl) (by decide) (hval 0 23 v0 rfl rfl) h0
  exact (FnExactPathText_walk v0 n0 f0 hn0 hw0 W hs0).mono fun e W' ⟨he, hb⟩ => ⟨_, he, law_post (by kernel_rfl) (by kernel_rfl) rfl rfl Tryd.underlying4 (fun ds h => by match ds, h with | [d0], _ => rfl) hW' hb⟩
theorem over : Rows.fnExactPathTextRow.holds Tryd.pinned (OpenSpec.ofChange Rows.fnExactPathTextSpec) :=
  OpenClaim.holds_of_wide 4 Tryd.f4 rfl rfl rfl rfl rfl rfl rfl ⟨rfl, rfl, rfl, rfl, rfl⟩ rfl rfl rfl rfl rfl (by kernel_rfl) Tryd.func4 (by kernel_rfl)
    (of_decide_eq_true (by kernel_rfl)) (by unfold Func.isWrapper; rw [if_neg (of_decide_eq_false (by kernel_rfl))]; exact ⟨rfl, rfl⟩)
    (fun os started H enc _ => lifted os started H enc)
theorem proved : Rows.FnExactPathTextCardSaid :=
  Claim7.holds_tied_plain_at .later [] [.data, .data, .data] true _ true over (fun _ h => by cases h) (by kernel_rfl) (fun _ h => by cases h) fnExactPathText_row_tie rfl ⟨rfl, rfl⟩ (by kernel_rfl) rfl
    (fun f fn hf hfn => by
      obtain rfl : f = 4 := Option.some.inj ((show Tryd.prog.funcNamed "loop.example/g01360/laws.FnExactPathText" = some 4 by kernel_rfl).symm.trans hf) |>.symm
      obtain rfl : fn = Tryd.f4 := (Option.some.inj (Tryd.func4.symm.trans hfn)).symm
      exact ⟨by kernel_rfl, fun j t ht => by
        have hm : t ∈ Tryd.f4.params.toList := Array.mem_toList_iff.2 (Array.mem_of_getElem? ht)
        have hall : (Tryd.f4.params.toList.all fun u => !Tryd.prog.wantsStandIn u) = true := by kernel_rfl
        exact (show Tryd.prog.wantsStandIn t = false by simpa using List.all_eq_true.1 hall t hm)⟩)
    (by kernel_rfl)
#print axioms proved
end fnExactPathText
end Go.Proofs.YtbnhhjjhjjmmjaaDoor
