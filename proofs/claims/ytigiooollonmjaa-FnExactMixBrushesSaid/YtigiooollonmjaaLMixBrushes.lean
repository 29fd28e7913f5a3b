/- The statement FnExactMixBrushes: for every two brushes the call returns true and both read as before. No condition. -/
import Derived.Test.YtigiooollonmjaaRows
import Derived.Test.YtigiooollonmjaaMixBS
import Derived.Test.YtigiooollonmjaaMixBI
import Derived.Test.YtigiooollonmjaaHeld
import Derived.Deep.RegionHeld3
import Derived.Deep.DeepCutAuto
import Derived.Lib.Hide
namespace Go.Proofs.Ytigiooollonmjaa
open Go.RowKit Go.ChangeShapes Go.WideShapes Go.ChangeAt
set_option linter.unusedVariables false
set_option linter.unusedSimpArgs false
set_option maxRecDepth 100000
/-- What the statement's two pairs of brushes leave: two blocks of its own that hold these rows. -/
def TwoB (w wx : World) (r0 r1 x y : Array Value) (z : Int) (s5 s6 s7 : Value) : Prop := ∃ g h : Nat, s5 = .pointer (some ⟨g, 0, none⟩) ∧ s6 = .pointer (some ⟨h, 0, none⟩) ∧ s7 = .int .i64 z ∧ rowOf wx g = x ∧ rowOf wx h = y ∧ g < wx.heap.size ∧ h < wx.heap.size ∧ w.heap.size + 2 ≤ g ∧ w.heap.size + 2 ≤ h ∧ Below w.heap.size w wx ∧ rowOf wx w.heap.size = r0 ∧ rowOf wx (w.heap.size + 1) = r1
set_option maxHeartbeats 16000000 in
theorem FnExactMixBrushes_walk (a b c wt sh : Int) (hf : FitBrush a b c wt sh) (d e f wu si : Int) (hg : FitBrush d e f wu si) (w : World) : Calls Try.prog 3 #[.agg (brush a b c wt sh), .agg (brush d e f wu si)] w fun e' w' => e' = .returned (.bool true) ∧ Below w.heap.size w w' := by
  obtain ⟨a1, b1, c1, wt1, sh1, a2, b2, c2, wt2, sh2, z, E⟩ := mixbV_is a b c wt sh d e f wu si
  have HS := Lib.hid (fun w => E ▸ sMixB_any a b c wt sh d e f wu si w hf hg)
  have HI := Lib.hid (fun w => E ▸ iMixB_any a b c wt sh d e f wu si w hf hg)
  clear E hf hg
  go_enter Try.func3, Try.ntmps3
  go_upto_region 1 with fail
  go_cut [5, 6, 7] (fun s5 s6 s7 wx => TwoB w wx (brush a b c wt sh) (brush d e f wu si) (brush a1 b1 c1 wt1 sh1) (brush a2 b2 c2 wt2 sh2) z s5 s6 s7)
  case first =>
    go_region_held3 (fun w' => rowOf w' w.heap.size = brush a b c wt sh ∧ rowOf w' (w.heap.size + 1) = brush d e f wu si) (go_simp) (first | (go_at_call 16; refine (toBrush_any _ _ _ _ _ _).mono ?_; rintro e w1 ⟨rfl, hb1⟩; have r1 := keep_rowA hb1; have f1 := keep_frA hb1; have s1 := hb1.size; (try simp only [World.size_alloc, World.size_setCell, setRow_size, World.size_drew] at r1 f1 s1)) | (go_at_call 15; refine (HS.out _).mono ?_; rintro e w1 ⟨rfl, hb1⟩; have r1 := keep_rowA hb1; have f1 := keep_frA hb1; have s1 := hb1.size; (try simp only [World.size_alloc, World.size_setCell, setRow_size, World.size_drew] at r1 f1 s1)))
    all_goals (go_wp2_with fail; go_meet; exact ⟨_, _, rfl, rfl, rfl, by (go_simp <;> (intros; omega)), by (go_simp <;> (intros; omega)), (by first | omega | (simp <;> omega)), (by first | omega | (simp <;> omega)), (by first | omega | (simp <;> omega)), (by first | omega | (simp <;> omega)), by repeat' (first | with_reducible exact Below.refl _ _ | with_reducible assumption | with_reducible refine Below.drew ?_ | with_reducible refine Below.drewN ?_ _ | with_reducible refine Below.alloc ?_ ?_ _ | with_reducible refine Below.setCell ?_ ?_ _ | with_reducible refine Below.setRow ?_ ?_ _ | with_reducible refine below_step (by assumption) ?_ ?_ | (show (_ : Nat) ≤ _; first | omega | (simp <;> omega))), by (go_simp <;> (intros; omega)), by (go_simp <;> (intros; omega))⟩)
  case rest =>
    obtain ⟨g, h, rfl, rfl, rfl, hg1, hh1, hgs, hhs, hg2, hh2, hb0, hr0, hr1⟩ := hcut
    go_upto_region 2 with fail
    go_cut [8, 9, 10] (fun s8 s9 s10 wy => TwoB w wy (brush a b c wt sh) (brush d e f wu si) (brush a1 b1 c1 wt1 sh1) (brush a2 b2 c2 wt2 sh2) z s8 s9 s10 ∧ rowOf wy g = brush a1 b1 c1 wt1 sh1 ∧ rowOf wy h = brush a2 b2 c2 wt2 sh2 ∧ g < wy.heap.size ∧ h < wy.heap.size)
    case first =>
      go_region_held3 (fun w' => rowOf w' w.heap.size = brush a b c wt sh ∧ rowOf w' (w.heap.size + 1) = brush d e f wu si) (go_simp) (first | (go_at_call 16; refine (toBrush_any _ _ _ _ _ _).mono ?_; rintro e w1 ⟨rfl, hb1⟩; have r1 := keep_rowA hb1; have f1 := keep_frA hb1; have s1 := hb1.size; (try simp only [World.size_alloc, World.size_setCell, setRow_size, World.size_drew] at r1 f1 s1)) | (go_at_call 17; refine (HI.out _).mono ?_; rintro e w1 ⟨rfl, hb1⟩; have r1 := keep_rowA hb1; have f1 := keep_frA hb1; have s1 := hb1.size; (try simp only [World.size_alloc, World.size_setCell, setRow_size, World.size_drew] at r1 f1 s1)))
      all_goals (go_wp2_with fail; go_meet; exact ⟨⟨_, _, rfl, rfl, rfl, by (go_simp <;> (intros; omega)), by (go_simp <;> (intros; omega)), (by first | omega | (simp <;> omega)), (by first | omega | (simp <;> omega)), (by first | omega | (simp <;> omega)), (by first | omega | (simp <;> omega)), by repeat' (first | with_reducible exact Below.refl _ _ | with_reducible assumption | with_reducible refine Below.drew ?_ | with_reducible refine Below.drewN ?_ _ | with_reducible refine Below.alloc ?_ ?_ _ | with_reducible refine Below.setCell ?_ ?_ _ | with_reducible refine Below.setRow ?_ ?_ _ | with_reducible refine below_step (by assumption) ?_ ?_ | (show (_ : Nat) ≤ _; first | omega | (simp <;> omega))), by (go_simp <;> (intros; omega)), by (go_simp <;> (intros; omega))⟩, by (go_simp <;> (intros; omega)), by (go_simp <;> (intros; omega)), (by first | omega | (simp <;> omega)), (by first | omega | (simp <;> omega))⟩)
    case rest =>
      obtain ⟨⟨g2, h2, rfl, rfl, rfl, hg3, hh3, hgs3, hhs3, hg4, hh4, hb4, hr4, hr5⟩, hg5, hh5, hgs5, hhs5⟩ := hcut
      go_wp2_with ((go_at_call 18; refine (eqBrush_same _ _ _ _ _ _).mono ?_; rintro e w1 ⟨rfl, hb1⟩; have r1 := keep_rowA hb1; have f1 := keep_frA hb1; have s1 := hb1.size; (try simp only [World.size_alloc, World.size_setCell, setRow_size, World.size_drew] at r1 f1 s1)))
      go_ret
      exact ⟨rfl, by repeat' (first | with_reducible exact Below.refl _ _ | with_reducible assumption | with_reducible refine Below.drew ?_ | with_reducible refine Below.drewN ?_ _ | with_reducible refine Below.alloc ?_ ?_ _ | with_reducible refine Below.setCell ?_ ?_ _ | with_reducible refine Below.setRow ?_ ?_ _ | with_reducible refine below_step (by assumption) ?_ ?_ | (show (_ : Nat) ≤ _; first | omega | (simp <;> omega)))⟩
namespace fnExactMixBrushes
theorem own : ownKnob Try.prog.godebug = none := by kernel_rfl
set_option maxRecDepth 100000 in
theorem lifted (os : Os) (started : os.Started) (H : Type) (enc : TypeId × Value → H) :
    ReturnsInHanded {} Try.checked os 3 .any (Rows.fnExactMixBrushesSpec.pre6 enc Try.prog Try.f3 Rows.fnExactMixBrushesRow.domain false) (Rows.fnExactMixBrushesSpec.post enc Try.prog Try.f3 false true false false) := by
  refine returnsInHanded_of_change (C := Try.checked) own started (by kernel_rfl) Try.func3
    (ChangeSpec.witness6 (enc := enc) (C := Try.checked) false ⟨#[], #[.agg (kc bk 5 fun _ => 0), .agg (kc bk 5 fun _ => 0)], []⟩ 8 (by kernel_rfl) (by kernel_rfl) (by kernel_rfl) (by kernel_rfl)) ?_
  intro W base args ds gs before hval0 hW hcnd _
  have hval : ∀ (j : Nat) t v, Try.f3.params[j]? = some t → args[j]? = some v → Value.okWide Try.prog W .any base t v := hval0
  have hW' := hW
  obtain ⟨p, q, hA0, hV, hpq, hfz, hnd⟩ := hW
  have hA : DataW.TrodAll enc Try.prog W 0 (fun _ => true) true Try.f3.params.toList args.toList ds p := hA0
  rw [Try.params3] at hA hval
  obtain ⟨v0, vs0, d0, ds0, p0, q0, hargs, hd0, hp0, h0, r0⟩ := trodAll_cons hA
  obtain ⟨v1, vs1, d1, ds1, p1, q1, rfl, hd1, hp1, h1, r1⟩ := trodAll_cons r0
  obtain ⟨rfl, hdn, hpn⟩ := trodAll_nil r1
  obtain rfl : args = #[v0, v1] := by cases args; simp_all
  clear hA0 hval0 hA
  obtain ⟨c0, rfl, hc0⟩ := open_flat (ks := bk) (n := 5) (by kernel_rfl) (by kernel_rfl) (hval 0 26 v0 rfl rfl) h0
  obtain ⟨c1, rfl, hc1⟩ := open_flat (ks := bk) (n := 5) (by kernel_rfl) (by kernel_rfl) (hval 1 26 v1 rfl rfl) h1
  exact (FnExactMixBrushes_walk (c0 0) (c0 1) (c0 2) (c0 3) (c0 4) (fitBrush hc0) (c1 0) (c1 1) (c1 2) (c1 3) (c1 4) (fitBrush hc1) W).mono fun e W' ⟨he, hb⟩ => ⟨_, he, law_post (by kernel_rfl) (by kernel_rfl) rfl rfl Try.underlying4 (fun ds h => by match ds, h with | [d0, d1], _ => rfl) hW' hb⟩
theorem over : Rows.fnExactMixBrushesRow.holds Try.pinned (OpenSpec.ofChange Rows.fnExactMixBrushesSpec) :=
  OpenClaim.holds_of_wide 3 Try.f3 rfl rfl rfl rfl rfl rfl rfl ⟨rfl, rfl, rfl, rfl, rfl⟩ rfl rfl rfl rfl rfl (by kernel_rfl) Try.func3 (by kernel_rfl)
    (of_decide_eq_true (by kernel_rfl)) (by unfold Func.isWrapper; rw [if_neg (of_decide_eq_false (by kernel_rfl))]; exact ⟨rfl, rfl⟩)
    (fun os started H enc _ => lifted os started H enc)
theorem proved : Rows.FnExactMixBrushesSaid := over
#print axioms proved
end fnExactMixBrushes
end Go.Proofs.Ytigiooollonmjaa
