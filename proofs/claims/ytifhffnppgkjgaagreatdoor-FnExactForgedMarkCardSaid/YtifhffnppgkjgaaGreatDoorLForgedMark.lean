/- The statement FnExactForgedMark: for every sheet, every slice of marks and every picture the call returns true. The laid tables are tied to the program's text. -/
import Derived.Test.YtifhffnppgkjgaaGreatDoorCards
import Derived.Test.YtifhffnppgkjgaaGreatDoorTie
import Derived.Test.YtifhffnppgkjgaaGreatDoorForS
import Derived.Test.YtifhffnppgkjgaaGreatDoorStrS
import Derived.Test.YtifhffnppgkjgaaGreatDoorWrap
import Derived.Test.YtifhffnppgkjgaaGreatDoorShapes
import Derived.Test.YtifhffnppgkjgaaGreatDoorOpen
import Derived.LaidMore
import Derived.Lay
import Derived.SevenTiedAt
import Derived.Stop.Joined
namespace Go.Proofs.YtifhffnppgkjgaaGreatDoor
open Go.RowKit Go.ChangeShapes Go.WideShapes Go.ChangeAt
set_option linter.unusedVariables false
set_option linter.unusedSimpArgs false
set_option maxRecDepth 100000
set_option maxHeartbeats 16000000 in
theorem FnExactForgedMark_walk (c : Nat → Int) (hfc : FitSheet c) (v : Value) (n : Nat) (F : Nat → Mk) (hn : n ≤ 9223372036854775807) (hF : ∀ k, k < n → MkIn (F k)) (v2 : Value) (P : List (List UInt8)) (hP : P.length ≤ 9223372036854775807) (hPw : ∀ x ∈ P, x.length ≤ 9223372036854775807) (w : World) (h : SlM w v n F) (h2 : SlT w v2 P) (hL : laidMetH Tryz.prog Rows.fnExactForgedMarkRow.laid w) (hSh : w.ShapedOpen Tryz.prog) :
    Calls Tryz.prog 5 #[.agg (kc sk 266 c), v, v2] w fun e w' => e = .returned (.bool true) ∧ Below w.heap.size w w' := by
  have HMX := Lib.hid (MxW.of hSh)
  have HZ := Lib.hid (fun w2 h => szMarkS_any v n F hn hF w2 h)
  have HZ2 := Lib.hid (fun q hq w h => szStringS_any v2 P hP hPw q hq w h)
  have HH := Lib.hid h
  have HP := Lib.hid h2
  have HF := Lib.hid hF
  clear h h2 hF hL hSh hPw
  go_enter Tryz.func5, Tryz.ntmps5
  go_wp2_with (go_at_call 7; refine (HZ.out _ (HH.out.below (by repeat' (first | with_reducible exact Below.refl _ _ | with_reducible assumption | with_reducible refine Below.drew ?_ | with_reducible refine Below.drewN ?_ _ | with_reducible refine Below.alloc ?_ ?_ _ | with_reducible refine Below.setCell ?_ ?_ _ | with_reducible refine Below.setRow ?_ ?_ _ | with_reducible refine below_step (by assumption) ?_ ?_ | (show (_ : Nat) ≤ _; first | omega | (simp <;> omega)))) (Nat.le_refl _))).mono ?_; rintro e wz ⟨r, rfl, hr, hr2, hbz⟩; have r_hbz := keep_rowA hbz; have f_hbz := keep_frA hbz; have s_hbz := hbz.size; (try simp only [World.size_alloc, World.size_setCell, setRow_size, World.size_drew, size_drewNm] at r_hbz f_hbz s_hbz); rcases hr with hr | ⟨hr0, hn2, hF2⟩)
  · go_ret
    exact ⟨rfl, by repeat' (first | with_reducible exact Below.refl _ _ | with_reducible assumption | with_reducible refine Below.drew ?_ | with_reducible refine Below.drewN ?_ _ | with_reducible refine Below.alloc ?_ ?_ _ | with_reducible refine Below.setCell ?_ ?_ _ | with_reducible refine Below.setRow ?_ ?_ _ | with_reducible refine below_step (by assumption) ?_ ?_ | (show (_ : Nat) ≤ _; first | omega | (simp <;> omega)))⟩
  go_wp2_with (go_at_call 8; refine (HZ2.out r ⟨hr0, hr2.2⟩ _ (HP.out.below (by repeat' (first | with_reducible exact Below.refl _ _ | with_reducible assumption | with_reducible refine Below.drew ?_ | with_reducible refine Below.drewN ?_ _ | with_reducible refine Below.alloc ?_ ?_ _ | with_reducible refine Below.setCell ?_ ?_ _ | with_reducible refine Below.setRow ?_ ?_ _ | with_reducible refine below_step (by assumption) ?_ ?_ | (show (_ : Nat) ≤ _; first | omega | (simp <;> omega)))) (Nat.le_refl _))).mono ?_; rintro e wy ⟨r2, rfl, hr3, hr4, hby⟩; have r_hby := keep_rowA hby; have f_hby := keep_frA hby; have s_hby := hby.size; (try simp only [World.size_alloc, World.size_setCell, setRow_size, World.size_drew, size_drewNm] at r_hby f_hby s_hby); rcases hr3 with hr3 | ⟨hr5, hP2⟩)
  · go_ret
    exact ⟨rfl, by repeat' (first | with_reducible exact Below.refl _ _ | with_reducible assumption | with_reducible refine Below.drew ?_ | with_reducible refine Below.drewN ?_ _ | with_reducible refine Below.alloc ?_ ?_ _ | with_reducible refine Below.setCell ?_ ?_ _ | with_reducible refine Below.setRow ?_ ?_ _ | with_reducible refine below_step (by assumption) ?_ ?_ | (show (_ : Nat) ≤ _; first | omega | (simp <;> omega)))⟩
  have HT := Lib.hid (fun v w h => toMarkS_full v n F hn2 hF2 w h)
  have HTS := Lib.hid (fun w h => toStringS_any v2 P hP2 w h)
  have HB := Lib.hid (show ∀ G : Nat → Value, ∀ k, k < n → MkIn (setV F G k) ∧ (setV F G k).n ≤ 1048576 from fun G k hk => ⟨HF.out k hk, hF2 k hk⟩)
  have HS := Lib.hid (fun gg bb G pp bq w2 h1 h2 => fgE_set c n F G P ▸ fgN_set c n F G P ▸ sForgedMark_any c hfc (.slice (some ⟨gg, 0, none⟩) n n) n bb (setV F G) hn2 (HB.out G) pp bq P hP2 w2 h1 h2 ⟨gg, rfl⟩)
  have HI := Lib.hid (fun vv bb G pp bq w2 h1 h2 h3 => fgE_set c n F G P ▸ fgN_set c n F G P ▸ iForgedMark_any c hfc vv n bb (setV F G) hn2 (HB.out G) pp bq P hP2 w2 h1 h2 h3)
  have HE := Lib.hid (fun v1 v2 b1 b2 G1 G2 w h1 h2 => eqMarkS_own v1 v2 n b1 b2 F G1 G2 (by omega) hF2 w h1 h2)
  have hself : eqL P P = true := by unfold eqL; simp
  have HES := Lib.hid (fun v1 v2 b1 b2 w h1 h2 => hself ▸ eqStringS_any v1 v2 b1 b2 P P hP2 hP2 w h1 h2)
  clear hF2 hself
  generalize fgN c n F P = z0 at *
  generalize fgE c n F P = z1 at *
  go_wp2_with (first | (go_at_call 10; refine (toSheet_any _ _).mono ?_; rintro e w1 ⟨rfl, hb1⟩; have r1 := keep_rowA hb1; have f1 := keep_frA hb1; have s1 := hb1.size; (try simp only [World.size_alloc, World.size_setCell, setRow_size, World.size_drew, size_drewNm] at r1 f1 s1)) | (go_at_call 11; refine (HT.out _ _ (HH.out.below (by repeat' (first | with_reducible exact Below.refl _ _ | with_reducible assumption | with_reducible refine Below.drew ?_ | with_reducible refine Below.drewN ?_ _ | with_reducible refine Below.alloc ?_ ?_ _ | with_reducible refine Below.setCell ?_ ?_ _ | with_reducible refine Below.setRow ?_ ?_ _ | with_reducible refine below_step (by assumption) ?_ ?_ | (show (_ : Nat) ≤ _; first | omega | (simp <;> omega)))) (Nat.le_refl _))).mono ?_; rintro e wa ⟨va, GA, gA, rfl, rfl, ho, hbwa⟩; have r_hbwa := keep_rowA hbwa; have f_hbwa := keep_frA hbwa; have s_hbwa := hbwa.size; (try simp only [World.size_alloc, World.size_setCell, setRow_size, World.size_drew, size_drewNm] at r_hbwa f_hbwa s_hbwa); have HA := Lib.hid ho; clear ho) | (go_at_call 12; refine (HTS.out _ (HP.out.below (by repeat' (first | with_reducible exact Below.refl _ _ | with_reducible assumption | with_reducible refine Below.drew ?_ | with_reducible refine Below.drewN ?_ _ | with_reducible refine Below.alloc ?_ ?_ _ | with_reducible refine Below.setCell ?_ ?_ _ | with_reducible refine Below.setRow ?_ ?_ _ | with_reducible refine below_step (by assumption) ?_ ?_ | (show (_ : Nat) ≤ _; first | omega | (simp <;> omega)))) (Nat.le_refl _))).mono ?_; rintro e wb ⟨vb, rfl, ho, hbwb⟩; have r_hbwb := keep_rowA hbwb; have f_hbwb := keep_frA hbwb; have s_hbwb := hbwb.size; (try simp only [World.size_alloc, World.size_setCell, setRow_size, World.size_drew, size_drewNm] at r_hbwb f_hbwb s_hbwb); have HAS := Lib.hid ho; clear ho) | (go_at_call 18; refine (HS.out _ _ _ _ _ _ (HA.out.below (by repeat' (first | with_reducible exact Below.refl _ _ | with_reducible assumption | with_reducible refine Below.drew ?_ | with_reducible refine Below.drewN ?_ _ | with_reducible refine Below.alloc ?_ ?_ _ | with_reducible refine Below.setCell ?_ ?_ _ | with_reducible refine Below.setRow ?_ ?_ _ | with_reducible refine below_step (by assumption) ?_ ?_ | (show (_ : Nat) ≤ _; first | omega | (simp <;> omega)))) (Nat.le_refl _)) HAS.out).mono ?_; rintro e wc ⟨rfl, hbc⟩; have r_hbc := keep_rowA hbc; have f_hbc := keep_frA hbc; have s_hbc := hbc.size; (try simp only [World.size_alloc, World.size_setCell, setRow_size, World.size_drew, size_drewNm] at r_hbc f_hbc s_hbc); clear HAS HA))
  go_wp2_with (go_at_call 19; refine (HI.out _ _ _ _ _ _ (HA.out.below (by repeat' (first | with_reducible exact Below.refl _ _ | with_reducible assumption | with_reducible refine Below.drew ?_ | with_reducible refine Below.drewN ?_ _ | with_reducible refine Below.alloc ?_ ?_ _ | with_reducible refine Below.setCell ?_ ?_ _ | with_reducible refine Below.setRow ?_ ?_ _ | with_reducible refine below_step (by assumption) ?_ ?_ | (show (_ : Nat) ≤ _; first | omega | (simp <;> omega)))) (Nat.le_refl _)) (HAS.out.below (by repeat' (first | with_reducible exact Below.refl _ _ | with_reducible assumption | with_reducible refine Below.drew ?_ | with_reducible refine Below.drewN ?_ _ | with_reducible refine Below.alloc ?_ ?_ _ | with_reducible refine Below.setCell ?_ ?_ _ | with_reducible refine Below.setRow ?_ ?_ _ | with_reducible refine below_step (by assumption) ?_ ?_ | (show (_ : Nat) ≤ _; first | omega | (simp <;> omega)))) (Nat.le_refl _)) (HMX.out.below (by repeat' (first | with_reducible exact Below.refl _ _ | with_reducible assumption | with_reducible refine Below.drew ?_ | with_reducible refine Below.drewN ?_ _ | with_reducible refine Below.alloc ?_ ?_ _ | with_reducible refine Below.setCell ?_ ?_ _ | with_reducible refine Below.setRow ?_ ?_ _ | with_reducible refine below_step (by assumption) ?_ ?_ | (show (_ : Nat) ≤ _; first | omega | (simp <;> omega)))))).mono ?_; rintro e wd ⟨rfl, hbd⟩; have r_hbd := keep_rowA hbd; have f_hbd := keep_frA hbd; have s_hbd := hbd.size; (try simp only [World.size_alloc, World.size_setCell, setRow_size, World.size_drew, size_drewNm] at r_hbd f_hbd s_hbd))
  go_wp2_with (go_at_call 11; refine (HT.out _ _ (HH.out.below (by repeat' (first | with_reducible exact Below.refl _ _ | with_reducible assumption | with_reducible refine Below.drew ?_ | with_reducible refine Below.drewN ?_ _ | with_reducible refine Below.alloc ?_ ?_ _ | with_reducible refine Below.setCell ?_ ?_ _ | with_reducible refine Below.setRow ?_ ?_ _ | with_reducible refine below_step (by assumption) ?_ ?_ | (show (_ : Nat) ≤ _; first | omega | (simp <;> omega)))) (Nat.le_refl _))).mono ?_; rintro e we ⟨ve, GE, gE, rfl, rfl, ho, hbe⟩; have r_hbe := keep_rowA hbe; have f_hbe := keep_frA hbe; have s_hbe := hbe.size; (try simp only [World.size_alloc, World.size_setCell, setRow_size, World.size_drew, size_drewNm] at r_hbe f_hbe s_hbe); have HD := Lib.hid ho; clear ho)
  go_wp2_with (go_at_call 14; refine (HE.out _ _ _ _ _ _ _ (HA.out.below (by repeat' (first | with_reducible exact Below.refl _ _ | with_reducible assumption | with_reducible refine Below.drew ?_ | with_reducible refine Below.drewN ?_ _ | with_reducible refine Below.alloc ?_ ?_ _ | with_reducible refine Below.setCell ?_ ?_ _ | with_reducible refine Below.setRow ?_ ?_ _ | with_reducible refine below_step (by assumption) ?_ ?_ | (show (_ : Nat) ≤ _; first | omega | (simp <;> omega)))) (Nat.le_refl _)) (HD.out.below (by repeat' (first | with_reducible exact Below.refl _ _ | with_reducible assumption | with_reducible refine Below.drew ?_ | with_reducible refine Below.drewN ?_ _ | with_reducible refine Below.alloc ?_ ?_ _ | with_reducible refine Below.setCell ?_ ?_ _ | with_reducible refine Below.setRow ?_ ?_ _ | with_reducible refine below_step (by assumption) ?_ ?_ | (show (_ : Nat) ≤ _; first | omega | (simp <;> omega)))) (Nat.le_refl _))).mono ?_; rintro e wf ⟨rfl, hbf⟩; have r_hbf := keep_rowA hbf; have f_hbf := keep_frA hbf; have s_hbf := hbf.size; (try simp only [World.size_alloc, World.size_setCell, setRow_size, World.size_drew, size_drewNm] at r_hbf f_hbf s_hbf))
  go_wp2_with (go_at_call 12; refine (HTS.out _ (HP.out.below (by repeat' (first | with_reducible exact Below.refl _ _ | with_reducible assumption | with_reducible refine Below.drew ?_ | with_reducible refine Below.drewN ?_ _ | with_reducible refine Below.alloc ?_ ?_ _ | with_reducible refine Below.setCell ?_ ?_ _ | with_reducible refine Below.setRow ?_ ?_ _ | with_reducible refine below_step (by assumption) ?_ ?_ | (show (_ : Nat) ≤ _; first | omega | (simp <;> omega)))) (Nat.le_refl _))).mono ?_; rintro e wg ⟨vg, rfl, ho, hbg⟩; have r_hbg := keep_rowA hbg; have f_hbg := keep_frA hbg; have s_hbg := hbg.size; (try simp only [World.size_alloc, World.size_setCell, setRow_size, World.size_drew, size_drewNm] at r_hbg f_hbg s_hbg); have HDS := Lib.hid ho; clear ho)
  go_wp2_with (go_at_call 15; refine (HES.out _ _ _ _ _ (HAS.out.below (by repeat' (first | with_reducible exact Below.refl _ _ | with_reducible assumption | with_reducible refine Below.drew ?_ | with_reducible refine Below.drewN ?_ _ | with_reducible refine Below.alloc ?_ ?_ _ | with_reducible refine Below.setCell ?_ ?_ _ | with_reducible refine Below.setRow ?_ ?_ _ | with_reducible refine below_step (by assumption) ?_ ?_ | (show (_ : Nat) ≤ _; first | omega | (simp <;> omega)))) (Nat.le_refl _)) (HDS.out.below (by repeat' (first | with_reducible exact Below.refl _ _ | with_reducible assumption | with_reducible refine Below.drew ?_ | with_reducible refine Below.drewN ?_ _ | with_reducible refine Below.alloc ?_ ?_ _ | with_reducible refine Below.setCell ?_ ?_ _ | with_reducible refine Below.setRow ?_ ?_ _ | with_reducible refine below_step (by assumption) ?_ ?_ | (show (_ : Nat) ≤ _; first | omega | (simp <;> omega)))) (Nat.le_refl _))).mono ?_; rintro e wh ⟨rfl, hbh⟩; have r_hbh := keep_rowA hbh; have f_hbh := keep_frA hbh; have s_hbh := hbh.size; (try simp only [World.size_alloc, World.size_setCell, setRow_size, World.size_drew, size_drewNm] at r_hbh f_hbh s_hbh))
  go_ret
  exact ⟨rfl, by repeat' (first | with_reducible exact Below.refl _ _ | with_reducible assumption | with_reducible refine Below.drew ?_ | with_reducible refine Below.drewN ?_ _ | with_reducible refine Below.alloc ?_ ?_ _ | with_reducible refine Below.setCell ?_ ?_ _ | with_reducible refine Below.setRow ?_ ?_ _ | with_reducible refine below_step (by assumption) ?_ ?_ | (show (_ : Nat) ≤ _; first | omega | (simp <;> omega)))⟩
namespace fnExactForgedMark
theorem own : ownKnob Tryz.prog.godebug = none := by kernel_rfl
set_option maxRecDepth 100000 in
theorem lifted (os : Os) (started : os.Started) (H : Type) (enc : TypeId × Value → H) :
    ReturnsInHanded {} Tryz.checked os 5 .any (fun w args => (Rows.fnExactForgedMarkSpec.pre enc Tryz.prog Tryz.f5 Rows.fnExactForgedMarkRow.domain false w args ∧ laidMetH Tryz.prog Rows.fnExactForgedMarkRow.laid w) ∧ sizedMet enc Tryz.prog Tryz.f5 (OpenSpec.ofChange Rows.fnExactForgedMarkSpec) false w args)
      (Rows.fnExactForgedMarkSpec.post enc Tryz.prog Tryz.f5 false true false false) := by
  refine wrap_both (C := Tryz.checked) (X := fun w _ => laidMetH Tryz.prog Rows.fnExactForgedMarkRow.laid w) (fun _ _ _ hh h => h.of_heap hh) own started (by kernel_rfl) Tryz.func5
    (ChangeSpec.witness_shaped (enc := enc) (C := Tryz.checked) (os := os) (X := fun w _ => laidMetH Tryz.prog Rows.fnExactForgedMarkRow.laid w) false (World.laidAll Tryz.prog os Rows.fnExactForgedMarkRow.laid) #[.agg (kc sk 266 fun _ => 0), .slice none 0 0, .slice none 0 0] 8 (World.laidAll_os _ _ _)
      (World.shaped_of_ZipB (by kernel_rfl) (by kernel_rfl)) (by kernel_rfl) (by kernel_rfl) (by kernel_rfl)
      (by rw [MakeChecks.laidMetH_plain _ _ _ (by kernel_rfl)]; exact laidMet_laidAll _ (by kernel_rfl) (by kernel_rfl))) ?_
  intro W base args ds gs before hval0 hW hcnd _ hL hSh
  have hval : ∀ (j : Nat) t v, Tryz.f5.params[j]? = some t → args[j]? = some v → Value.okWide Tryz.prog W .any base t v := hval0
  have hW' := hW
  obtain ⟨p, q, hA0, hV, hpq, hfz, hnd⟩ := hW
  have hA : DataW.TrodAll enc Tryz.prog W 0 (fun _ => true) true Tryz.f5.params.toList args.toList ds p := hA0
  rw [Tryz.params5] at hA hval
  obtain ⟨v0, vs0, d0, ds0, p0, q0, hargs, hd0, hp0, h0, r0⟩ := trodAll_cons hA
  obtain ⟨v1, vs1, d1, ds1, p1, q1, rfl, hd1, hp1, h1, r1⟩ := trodAll_cons r0
  obtain ⟨v2, vs2, d2, ds2, p2, q2, rfl, hd2, hp2, h2, r2⟩ := trodAll_cons r1
  obtain ⟨rfl, hdn, hpn⟩ := trodAll_nil r2
  obtain rfl : args = #[v0, v1, v2] := by cases args; simp_all
  clear hA0 hval0 hA
  obtain ⟨c0, rfl, hc0⟩ := open_flat (ks := sk) (n := 266) (by kernel_rfl) (by kernel_rfl) (hval 0 31 v0 rfl rfl) h0
  obtain ⟨n1, F1, hs1, hn1, hw1⟩ := open_slM Tryz.underlying32 Tryz.underlying58 (by kernel_rfl) Tryz.underlying56 (by kernel_rfl) rfl rfl (by kernel_rfl) (by kernel_rfl) (by kernel_rfl) (hval 1 32 v1 rfl rfl) h1
  obtain ⟨L2, hs2, hn2, hw2⟩ := open_slT Tryz.underlying33 Tryz.underlying9 (by kernel_rfl) (hval 2 33 v2 rfl rfl) h2
  exact (FnExactForgedMark_walk c0 (fitSheet hc0) v1 n1 F1 hn1 hw1 v2 L2 hn2 hw2 W hs1 hs2 hL hSh).mono fun e W' ⟨he, hb⟩ => ⟨_, he, law_post (by kernel_rfl) (by kernel_rfl) rfl rfl Tryz.underlying4 (fun ds h => by match ds, h with | [d0, d1, d2], _ => rfl) hW' hb⟩
theorem over : Rows.fnExactForgedMarkRow.holds Tryz.pinned (OpenSpec.ofChange Rows.fnExactForgedMarkSpec) :=
  OpenClaim.holds_of_wide 5 Tryz.f5 rfl rfl rfl rfl rfl rfl rfl ⟨rfl, rfl, rfl, rfl, rfl⟩ rfl rfl rfl rfl rfl (by kernel_rfl) Tryz.func5 (by kernel_rfl)
    (of_decide_eq_true (by kernel_rfl)) (by unfold Func.isWrapper; rw [if_neg (of_decide_eq_false (by kernel_rfl))]; exact ⟨rfl, rfl⟩)
    (fun os started H enc _ => lifted os started H enc)
theorem proved : Rows.FnExactForgedMarkCardSaid :=
  Claim7.holds_tied_plain_at .later [] [.data, .pinned] true _ false over (fun _ h => by cases h) (by kernel_rfl) (fun _ h => by cases h) fnExactForgedMark_row_tie rfl ⟨rfl, rfl⟩ (by kernel_rfl) rfl
    (fun f fn hf hfn => by
      obtain rfl : f = 5 := Option.some.inj ((show Tryz.prog.funcNamed "loop.example/g01360/laws.FnExactForgedMark" = some 5 by kernel_rfl).symm.trans hf) |>.symm
      obtain rfl : fn = Tryz.f5 := (Option.some.inj (Tryz.func5.symm.trans hfn)).symm
      exact ⟨by kernel_rfl, fun j t ht => by
        have hm : t ∈ Tryz.f5.params.toList := Array.mem_toList_iff.2 (Array.mem_of_getElem? ht)
        have hall : (Tryz.f5.params.toList.all fun u => !Tryz.prog.wantsStandIn u) = true := by kernel_rfl
        exact (show Tryz.prog.wantsStandIn t = false by simpa using List.all_eq_true.1 hall t hm)⟩)
    (by kernel_rfl)
#print axioms proved
end fnExactForgedMark
end Go.Proofs.YtifhffnppgkjgaaGreatDoor
