/- A brush takes dye back from a cell: one side. Written by gen_lift.py. -/
import Derived.Test.YtigiooollonmjaaLiftV
import Derived.Test.YtigiooollonmjaaHeld
import Derived.Test.YtigiooollonmjaaMixBV
import Derived.BigQuiet
namespace Go.Proofs.Ytigiooollonmjaa
open Go.RowKit
set_option linter.unusedVariables false
set_option linter.unusedSimpArgs false
set_option maxRecDepth 100000
set_option maxHeartbeats 8000000 in
theorem sLift_any (c : Nat → Int) (hf : FitSheet c) (a b d wt sh : Int) (hb : FitBrush a b d wt sh) (x y : Int) (hx : -128 ≤ x ∧ x ≤ 127) (hy : -128 ≤ y ∧ y ≤ 127) (p : Int) (w : World) :
    Calls Try.prog 19 #[.agg (kc sk 266 c), .agg (brush a b d wt sh), .agg #[.int .i8 x, .int .i8 y], .int .i64 p] w fun e w' => e = .returned (liftV c a b d wt sh x y p) ∧ Below w.heap.size w w' := by
  have hA := fun pp qq w hr hp hr2 hq => l04Asked_any pp qq c hf a b d wt sh hb x y hx hy (inB p 0 16) w hr hp hr2 hq
  by_cases hall : okBrush a b d wt sh = true ∧ okS c = true ∧ isP c x y = true ∧ inB p 0 16 = true
  case neg =>
    rw [liftV_no hall]
    have hz : (askL (okBrush a b d wt sh) (okS c) (isP c x y) (inB p 0 16)) ≠ 0 := by
      intro h
      apply hall
      unfold askL askB at h
      split at h
      · split at h
        · split at h
          · rename_i q1 q2 q3; simp only [Bool.and_eq_true] at q3; exact ⟨q1, q2, q3.1, q3.2⟩
          · omega
        · omega
      · omega
    generalize (askL (okBrush a b d wt sh) (okS c) (isP c x y) (inB p 0 16)) = z at hA hz ⊢
    have hz2 : (z != 0) = true := by simpa using hz
    have HA := Lib.hid hA
    clear hA hall hz
    go_enter Try.func19, Try.ntmps19
    go_wp2
    (refine wp_region_held (S := fun w' => rowOf w' (w.heap.size) = kc sk 266 c ∧ rowOf w' (w.heap.size + 1) = brush a b d wt sh ∧ rowOf w' (w.heap.size + 1 + 1) = #[.int .i8 x, .int .i8 y]) (by kernel_rfl) ?_); (simp only [World.drew_eq]); (refine wpAnyH_take (i := 0) rfl (by kernel_rfl) (by kernel_rfl) (by kernel_rfl) (fun _ _ _ h => h) (yieldsIf_load (v := .agg (#[.int .i8 x, .int .i8 y])) rfl rfl rfl (fun w ⟨h0, h1, h2⟩ => by go_simp)) ⟨by go_simp, by go_simp, by go_simp⟩ ?_); (try simp only [Act.put, Act.eval, List.getElem_toArray, List.getElem_cons_zero, List.getElem_cons_succ, List.setIfInBounds_toArray, List.set_cons_zero, List.set_cons_succ, Array.getD_eq_getD_getElem?, List.getElem?_toArray, List.getElem?_cons_zero, List.getElem?_cons_succ, Option.getD_some]); (refine wpAnyH_take (i := 1) rfl (by kernel_rfl) (by kernel_rfl) (by kernel_rfl) (fun _ _ _ h => h) (yieldsIf_move rfl rfl) ⟨by go_simp, by go_simp, by go_simp⟩ ?_); (try simp only [Act.put, Act.eval, List.getElem_toArray, List.getElem_cons_zero, List.getElem_cons_succ, List.setIfInBounds_toArray, List.set_cons_zero, List.set_cons_succ, Array.getD_eq_getD_getElem?, List.getElem?_toArray, List.getElem?_cons_zero, List.getElem?_cons_succ, Option.getD_some]); (refine wpAnyH_one (i := 2) (by kernel_rfl) rfl rfl ?_); (go_simp); (first | (go_at_call 67; refine (l00In_any _ _ _ _).mono ?_; rintro e w1 ⟨rfl, rfl⟩) | (go_at_call 66; refine (HA.out _ _ _ (by (go_simp <;> (intros; omega))) (by first | omega | (simp <;> omega)) (by (go_simp <;> (intros; omega))) (by first | omega | (simp <;> omega))).mono ?_; rintro e w1 ⟨rfl, hb1⟩; have r1 := keep_rowA hb1; have f1 := keep_frA hb1; have s1 := hb1.size; (try simp only [World.size_alloc, World.size_setCell, setRow_size, World.size_drew, size_drewNm] at r1 f1 s1))); (refine ⟨⟨by go_simp, by go_simp, by go_simp⟩, ?_⟩); (try simp only [Act.put, Act.eval, List.getElem_toArray, List.getElem_cons_zero, List.getElem_cons_succ, List.setIfInBounds_toArray, List.set_cons_zero, List.set_cons_succ, Array.getD_eq_getD_getElem?, List.getElem?_toArray, List.getElem?_cons_zero, List.getElem?_cons_succ, Option.getD_some]); (refine wpAnyH_one (i := 3) (by kernel_rfl) rfl rfl ?_); (go_simp); (first | (go_at_call 67; refine (l00In_any _ _ _ _).mono ?_; rintro e w1 ⟨rfl, rfl⟩) | (go_at_call 66; refine (HA.out _ _ _ (by (go_simp <;> (intros; omega))) (by first | omega | (simp <;> omega)) (by (go_simp <;> (intros; omega))) (by first | omega | (simp <;> omega))).mono ?_; rintro e w1 ⟨rfl, hb1⟩; have r1 := keep_rowA hb1; have f1 := keep_frA hb1; have s1 := hb1.size; (try simp only [World.size_alloc, World.size_setCell, setRow_size, World.size_drew, size_drewNm] at r1 f1 s1))); (refine ⟨⟨by go_simp, by go_simp, by go_simp⟩, ?_⟩); (try simp only [Act.put, Act.eval, List.getElem_toArray, List.getElem_cons_zero, List.getElem_cons_succ, List.setIfInBounds_toArray, List.set_cons_zero, List.set_cons_succ, Array.getD_eq_getD_getElem?, List.getElem?_toArray, List.getElem?_cons_zero, List.getElem?_cons_succ, Option.getD_some]); (refine wpAnyH_take (i := 4) rfl (by kernel_rfl) (by kernel_rfl) (by kernel_rfl) (fun _ _ _ h => h) (yieldsIf_assign rfl rfl) ⟨by go_simp, by go_simp, by go_simp⟩ ?_); (try simp only [Act.put, Act.eval, List.getElem_toArray, List.getElem_cons_zero, List.getElem_cons_succ, List.setIfInBounds_toArray, List.set_cons_zero, List.set_cons_succ, Array.getD_eq_getD_getElem?, List.getElem?_toArray, List.getElem?_cons_zero, List.getElem?_cons_succ, Option.getD_some]); (refine wpAnyH_done (by kernel_rfl) ?_ _)
    go_wp2
    refine bodyPost_ret (v := .tuple #[.agg (kc sk 266 fun _ => 0), .agg (brush 0 0 0 0 0), .int .i64 z]) (res_cct rfl rfl (by (go_simp <;> (intros; omega))) rfl (by (go_simp <;> (intros; omega))) rfl) rfl ⟨rfl, by repeat' (first | with_reducible exact Below.refl _ _ | with_reducible assumption | with_reducible refine Below.drew ?_ | with_reducible refine Below.drewN ?_ _ | with_reducible refine Below.alloc ?_ ?_ _ | with_reducible refine Below.setCell ?_ ?_ _ | with_reducible refine Below.setRow ?_ ?_ _ | with_reducible refine below_step (by assumption) ?_ ?_ | (show (_ : Nat) ≤ _; first | omega | (simp <;> omega)))⟩
  obtain ⟨ho, hs, hi, hp16⟩ := hall
  obtain ⟨x, y, rfl, rfl, hx8, hy8⟩ := isP_nat hs hi
  have hV := liftV_yes ⟨ho, hs, hi, hp16⟩
  have hz : (askL (okBrush a b d wt sh) (okS c) (isP c x y) (inB p 0 16)) = 0 := by rw [ho, hs, hi, hp16]; rfl
  rw [hz] at hA
  have HA := Lib.hid hA
  have ⟨p1, p2⟩ := inB_true.1 hp16
  have ⟨o1, o2, o3, o4, o5, o6, o7, o8, o9, o10, o11⟩ := okBrush_in ho
  have ⟨h1, h2, h3, h4, h5⟩ := hb
  obtain ⟨g0, g1, g2⟩ := ok_dyes hs hx8 hy8
  obtain ⟨l0, l1, l2⟩ := lift_in (L := a + b + d) g0 g1 g2 ⟨by omega, by omega⟩ ⟨p1, p2⟩
  have hn : mn (c (dyeP x y) * p / 16) (900 - (a + b + d)) = lift0 c (dyeP x y) (a + b + d) p ∧ mn (c (dyeP x y + 1) * p / 16) (900 - (a + b + d + lift0 c (dyeP x y) (a + b + d) p)) = lift1 c (dyeP x y) (a + b + d) p ∧ mn (c (dyeP x y + 2) * p / 16) (900 - (a + b + d + lift0 c (dyeP x y) (a + b + d) p + lift1 c (dyeP x y) (a + b + d) p)) = lift2 c (dyeP x y) (a + b + d) p := ⟨rfl, rfl, rfl⟩
  generalize hn0 : lift0 c (dyeP x y) (a + b + d) p = n0 at *
  generalize hn1 : lift1 c (dyeP x y) (a + b + d) p = n1 at *
  generalize hn2 : lift2 c (dyeP x y) (a + b + d) p = n2 at *
  have HN := Lib.hid hn
  have HNE := Lib.hid (And.intro hn0 (And.intro hn1 hn2))
  have HVV := Lib.hid hV
  clear hA hz hn hn0 hn1 hn2 hV ho hs hi hp16
  go_enter Try.func19, Try.ntmps19
  go_wp2
  (refine wp_region_held (S := fun w' => rowOf w' (w.heap.size) = kc sk 266 c ∧ rowOf w' (w.heap.size + 1) = brush a b d wt sh ∧ rowOf w' (w.heap.size + 1 + 1) = #[.int .i8 x, .int .i8 y]) (by kernel_rfl) ?_); (simp only [World.drew_eq]); (refine wpAnyH_take (i := 0) rfl (by kernel_rfl) (by kernel_rfl) (by kernel_rfl) (fun _ _ _ h => h) (yieldsIf_load (v := .agg (#[.int .i8 x, .int .i8 y])) rfl rfl rfl (fun w ⟨h0, h1, h2⟩ => by go_simp)) ⟨by go_simp, by go_simp, by go_simp⟩ ?_); (try simp only [Act.put, Act.eval, List.getElem_toArray, List.getElem_cons_zero, List.getElem_cons_succ, List.setIfInBounds_toArray, List.set_cons_zero, List.set_cons_succ, Array.getD_eq_getD_getElem?, List.getElem?_toArray, List.getElem?_cons_zero, List.getElem?_cons_succ, Option.getD_some]); (refine wpAnyH_take (i := 1) rfl (by kernel_rfl) (by kernel_rfl) (by kernel_rfl) (fun _ _ _ h => h) (yieldsIf_move rfl rfl) ⟨by go_simp, by go_simp, by go_simp⟩ ?_); (try simp only [Act.put, Act.eval, List.getElem_toArray, List.getElem_cons_zero, List.getElem_cons_succ, List.setIfInBounds_toArray, List.set_cons_zero, List.set_cons_succ, Array.getD_eq_getD_getElem?, List.getElem?_toArray, List.getElem?_cons_zero, List.getElem?_cons_succ, Option.getD_some]); (refine wpAnyH_one (i := 2) (by kernel_rfl) rfl rfl ?_); (go_simp); (first | (go_at_call 67; refine (l00In_any _ _ _ _).mono ?_; rintro e w1 ⟨rfl, rfl⟩) | (go_at_call 66; refine (HA.out _ _ _ (by (go_simp <;> (intros; omega))) (by first | omega | (simp <;> omega)) (by (go_simp <;> (intros; omega))) (by first | omega | (simp <;> omega))).mono ?_; rintro e w1 ⟨rfl, hb1⟩; have r1 := keep_rowA hb1; have f1 := keep_frA hb1; have s1 := hb1.size; (try simp only [World.size_alloc, World.size_setCell, setRow_size, World.size_drew, size_drewNm] at r1 f1 s1))); (refine ⟨⟨by go_simp, by go_simp, by go_simp⟩, ?_⟩); (try simp only [Act.put, Act.eval, List.getElem_toArray, List.getElem_cons_zero, List.getElem_cons_succ, List.setIfInBounds_toArray, List.set_cons_zero, List.set_cons_succ, Array.getD_eq_getD_getElem?, List.getElem?_toArray, List.getElem?_cons_zero, List.getElem?_cons_succ, Option.getD_some]); (refine wpAnyH_one (i := 3) (by kernel_rfl) rfl rfl ?_); (go_simp); (first | (go_at_call 67; refine (l00In_any _ _ _ _).mono ?_; rintro e w1 ⟨rfl, rfl⟩) | (go_at_call 66; refine (HA.out _ _ _ (by (go_simp <;> (intros; omega))) (by first | omega | (simp <;> omega)) (by (go_simp <;> (intros; omega))) (by first | omega | (simp <;> omega))).mono ?_; rintro e w1 ⟨rfl, hb1⟩; have r1 := keep_rowA hb1; have f1 := keep_frA hb1; have s1 := hb1.size; (try simp only [World.size_alloc, World.size_setCell, setRow_size, World.size_drew, size_drewNm] at r1 f1 s1))); (refine ⟨⟨by go_simp, by go_simp, by go_simp⟩, ?_⟩); (try simp only [Act.put, Act.eval, List.getElem_toArray, List.getElem_cons_zero, List.getElem_cons_succ, List.setIfInBounds_toArray, List.set_cons_zero, List.set_cons_succ, Array.getD_eq_getD_getElem?, List.getElem?_toArray, List.getElem?_cons_zero, List.getElem?_cons_succ, Option.getD_some]); (refine wpAnyH_take (i := 4) rfl (by kernel_rfl) (by kernel_rfl) (by kernel_rfl) (fun _ _ _ h => h) (yieldsIf_assign rfl rfl) ⟨by go_simp, by go_simp, by go_simp⟩ ?_); (try simp only [Act.put, Act.eval, List.getElem_toArray, List.getElem_cons_zero, List.getElem_cons_succ, List.setIfInBounds_toArray, List.set_cons_zero, List.set_cons_succ, Array.getD_eq_getD_getElem?, List.getElem?_toArray, List.getElem?_cons_zero, List.getElem?_cons_succ, Option.getD_some]); (refine wpAnyH_done (by kernel_rfl) ?_ _)
  go_wp2
  go_loopw [12] (fun i wr => ∃ k : Nat, k ≤ 3 ∧ i = .int .i64 k ∧ LiftR c a b d wt sh x y p w k wr) (fun i wr => 4 - (intOf i).toNat)
  case atStart => exact ⟨0, by omega, rfl, by repeat' (first | with_reducible exact Below.refl _ _ | with_reducible assumption | with_reducible refine Below.drew ?_ | with_reducible refine Below.drewN ?_ _ | with_reducible refine Below.alloc ?_ ?_ _ | with_reducible refine Below.setCell ?_ ?_ _ | with_reducible refine Below.setRow ?_ ?_ _ | with_reducible refine below_step (by assumption) ?_ ?_ | (show (_ : Nat) ≤ _; first | omega | (simp <;> omega))), (by first | omega | (simp <;> omega)), by show rowOf _ _ = kc sk 266 c; (go_simp <;> (intros; omega)), by (go_simp <;> (intros; omega)), by show rowOf _ _ = brush a b d wt sh; (go_simp <;> (intros; omega)), by (go_simp <;> (intros; omega)), by (go_simp <;> (intros; omega)), by (go_simp <;> (intros; omega)), by (go_simp <;> (intros; omega)), by (go_simp <;> (intros; omega)), by (go_simp <;> (intros; omega))⟩
  case round =>
    obtain ⟨k, hk, rfl, hbl, hsz, hrs, hfs, hrb, hfb, hrx, hr3, hf3, hr4, hf4⟩ := hrel
    have hszw := hbl.size
    rw [HNE.out.1, HNE.out.2.1, HNE.out.2.2] at hrb
    rcases (show k = 0 ∨ k = 1 ∨ k = 2 ∨ k = 3 by omega) with rfl | rfl | rfl | rfl
    · have hC := (liftC_next c (dyeP x y) (a + b + d) p).1
      have hA := (liftC_at c (dyeP x y) (a + b + d) p).1
      have hnn : mn (c (dyeP x y) * p / 16) (900 - (a + b + d)) = n0 := HN.out.1
      rw [show lift0 c (dyeP x y) (a + b + d) p = n0 from HNE.out.1] at hC
      generalize liftC c (dyeP x y) (a + b + d) p 0 = e at hrs hC hA ⊢
      have hrb2 : rowOf wr (w.heap.size + 1) = brush a b d wt sh := hrb
      have HC := Lib.hid hC
      have hmul := mul_part (v := c (dyeP x y)) (p := p) (by omega) ⟨p1, p2⟩
      generalize hv : c (dyeP x y) = v at *
      have HV := Lib.hid hv
      have hsk := sk_dye (k := 0) hx8 hy8 (by omega)
      have hAe : e (66 + y * 24 + x * 3) = v := hA
      have hn3 : mn (v * p / 16) (900 - (a + b + d)) = n0 := by rw [show a + b + d = (a + b + d) by omega]; exact hnn
      have hmin := mn_cases (v * p / 16) (900 - (a + b + d))
      rw [hn3] at hmin
      clear hC hrb hv hA hnn
      go_wp2
      go_quiet (fail)
      go_wp2_with (first | (go_at_call 69; refine (l04Load_any _ a b d wt sh _ ⟨by omega, by omega, by omega, h4, h5⟩ (by (go_simp <;> (intros; omega)))).mono ?_; rintro e w1 ⟨rfl, hb1⟩; have r1 := keep_rowA hb1; have f1 := keep_frA hb1; have s1 := hb1.size; (try simp only [World.size_alloc, World.size_setCell, setRow_size, World.size_drew, size_drewNm] at r1 f1 s1)) | (go_at_call 68; refine (l00Min_any _ _ _).mono ?_; rintro e w1 ⟨rfl, rfl⟩))
      go_region
      go_wp2
      go_roundw
      case rel => first | exact ⟨1, by omega, by go_num, by repeat' (first | with_reducible exact Below.refl _ _ | with_reducible assumption | with_reducible refine Below.drew ?_ | with_reducible refine Below.drewN ?_ _ | with_reducible refine Below.alloc ?_ ?_ _ | with_reducible refine Below.setCell ?_ ?_ _ | with_reducible refine Below.setRow ?_ ?_ _ | with_reducible refine below_step (by assumption) ?_ ?_ | (show (_ : Nat) ≤ _; first | omega | (simp <;> omega))), (by first | omega | (simp <;> omega)), by rw [HC.out]; show rowOf _ _ = kc sk 266 (upI e (66 + y * 24 + x * 3) (v - n0)); go_simp <;> (intros; first | rfl | omega), by (go_simp <;> (intros; omega)), by rw [HNE.out.1, HNE.out.2.1, HNE.out.2.2]; show rowOf _ _ = brush (a + n0) b d wt sh; go_simp <;> (intros; first | rfl | omega), by (go_simp <;> (intros; omega)), by (go_simp <;> (intros; omega)), by (go_simp <;> (intros; omega)), by (go_simp <;> (intros; omega)), by (go_simp <;> (intros; omega)), by (go_simp <;> (intros; omega))⟩ | ((repeat (with_reducible apply Exists.intro)); refine And.intro ?_ ?_; rotate_left; focus ((repeat' (with_reducible apply And.intro)) <;> rfl); exact ⟨1, by omega, by go_num, by repeat' (first | with_reducible exact Below.refl _ _ | with_reducible assumption | with_reducible refine Below.drew ?_ | with_reducible refine Below.drewN ?_ _ | with_reducible refine Below.alloc ?_ ?_ _ | with_reducible refine Below.setCell ?_ ?_ _ | with_reducible refine Below.setRow ?_ ?_ _ | with_reducible refine below_step (by assumption) ?_ ?_ | (show (_ : Nat) ≤ _; first | omega | (simp <;> omega))), (by first | omega | (simp <;> omega)), by rw [HC.out]; show rowOf _ _ = kc sk 266 (upI e (66 + y * 24 + x * 3) (v - n0)); go_simp <;> (intros; first | rfl | omega), by (go_simp <;> (intros; omega)), by rw [HNE.out.1, HNE.out.2.1, HNE.out.2.2]; show rowOf _ _ = brush (a + n0) b d wt sh; go_simp <;> (intros; first | rfl | omega), by (go_simp <;> (intros; omega)), by (go_simp <;> (intros; omega)), by (go_simp <;> (intros; omega)), by (go_simp <;> (intros; omega)), by (go_simp <;> (intros; omega)), by (go_simp <;> (intros; omega))⟩)
      case measure => simp [intOf]
    · have hC := (liftC_next c (dyeP x y) (a + b + d) p).2.1
      have hA := (liftC_at c (dyeP x y) (a + b + d) p).2.1
      have hnn : mn (c (dyeP x y + 1) * p / 16) (900 - (a + b + d + n0)) = n1 := HN.out.2.1
      rw [show lift1 c (dyeP x y) (a + b + d) p = n1 from HNE.out.2.1] at hC
      generalize liftC c (dyeP x y) (a + b + d) p 1 = e at hrs hC hA ⊢
      have hrb2 : rowOf wr (w.heap.size + 1) = brush (a + n0) b d wt sh := hrb
      have HC := Lib.hid hC
      have hmul := mul_part (v := c (dyeP x y + 1)) (p := p) (by omega) ⟨p1, p2⟩
      generalize hv : c (dyeP x y + 1) = v at *
      have HV := Lib.hid hv
      have hsk := sk_dye (k := 1) hx8 hy8 (by omega)
      have hAe : e (66 + y * 24 + x * 3 + 1) = v := hA
      have hn3 : mn (v * p / 16) (900 - ((a + n0) + b + d)) = n1 := by rw [show (a + n0) + b + d = (a + b + d + n0) by omega]; exact hnn
      have hmin := mn_cases (v * p / 16) (900 - ((a + n0) + b + d))
      rw [hn3] at hmin
      clear hC hrb hv hA hnn
      go_wp2
      go_quiet (fail)
      go_wp2_with (first | (go_at_call 69; refine (l04Load_any _ (a + n0) b d wt sh _ ⟨by omega, by omega, by omega, h4, h5⟩ (by (go_simp <;> (intros; omega)))).mono ?_; rintro e w1 ⟨rfl, hb1⟩; have r1 := keep_rowA hb1; have f1 := keep_frA hb1; have s1 := hb1.size; (try simp only [World.size_alloc, World.size_setCell, setRow_size, World.size_drew, size_drewNm] at r1 f1 s1)) | (go_at_call 68; refine (l00Min_any _ _ _).mono ?_; rintro e w1 ⟨rfl, rfl⟩))
      go_region
      go_wp2
      go_roundw
      case rel => first | exact ⟨2, by omega, by go_num, by repeat' (first | with_reducible exact Below.refl _ _ | with_reducible assumption | with_reducible refine Below.drew ?_ | with_reducible refine Below.drewN ?_ _ | with_reducible refine Below.alloc ?_ ?_ _ | with_reducible refine Below.setCell ?_ ?_ _ | with_reducible refine Below.setRow ?_ ?_ _ | with_reducible refine below_step (by assumption) ?_ ?_ | (show (_ : Nat) ≤ _; first | omega | (simp <;> omega))), (by first | omega | (simp <;> omega)), by rw [HC.out]; show rowOf _ _ = kc sk 266 (upI e (66 + y * 24 + x * 3 + 1) (v - n1)); go_simp <;> (intros; first | rfl | omega), by (go_simp <;> (intros; omega)), by rw [HNE.out.1, HNE.out.2.1, HNE.out.2.2]; show rowOf _ _ = brush (a + n0) (b + n1) d wt sh; go_simp <;> (intros; first | rfl | omega), by (go_simp <;> (intros; omega)), by (go_simp <;> (intros; omega)), by (go_simp <;> (intros; omega)), by (go_simp <;> (intros; omega)), by (go_simp <;> (intros; omega)), by (go_simp <;> (intros; omega))⟩ | ((repeat (with_reducible apply Exists.intro)); refine And.intro ?_ ?_; rotate_left; focus ((repeat' (with_reducible apply And.intro)) <;> rfl); exact ⟨2, by omega, by go_num, by repeat' (first | with_reducible exact Below.refl _ _ | with_reducible assumption | with_reducible refine Below.drew ?_ | with_reducible refine Below.drewN ?_ _ | with_reducible refine Below.alloc ?_ ?_ _ | with_reducible refine Below.setCell ?_ ?_ _ | with_reducible refine Below.setRow ?_ ?_ _ | with_reducible refine below_step (by assumption) ?_ ?_ | (show (_ : Nat) ≤ _; first | omega | (simp <;> omega))), (by first | omega | (simp <;> omega)), by rw [HC.out]; show rowOf _ _ = kc sk 266 (upI e (66 + y * 24 + x * 3 + 1) (v - n1)); go_simp <;> (intros; first | rfl | omega), by (go_simp <;> (intros; omega)), by rw [HNE.out.1, HNE.out.2.1, HNE.out.2.2]; show rowOf _ _ = brush (a + n0) (b + n1) d wt sh; go_simp <;> (intros; first | rfl | omega), by (go_simp <;> (intros; omega)), by (go_simp <;> (intros; omega)), by (go_simp <;> (intros; omega)), by (go_simp <;> (intros; omega)), by (go_simp <;> (intros; omega)), by (go_simp <;> (intros; omega))⟩)
      case measure => simp [intOf]
    · have hC := (liftC_next c (dyeP x y) (a + b + d) p).2.2
      have hA := (liftC_at c (dyeP x y) (a + b + d) p).2.2
      have hnn : mn (c (dyeP x y + 2) * p / 16) (900 - (a + b + d + n0 + n1)) = n2 := HN.out.2.2
      rw [show lift2 c (dyeP x y) (a + b + d) p = n2 from HNE.out.2.2] at hC
      generalize liftC c (dyeP x y) (a + b + d) p 2 = e at hrs hC hA ⊢
      have hrb2 : rowOf wr (w.heap.size + 1) = brush (a + n0) (b + n1) d wt sh := hrb
      have HC := Lib.hid hC
      have hmul := mul_part (v := c (dyeP x y + 2)) (p := p) (by omega) ⟨p1, p2⟩
      generalize hv : c (dyeP x y + 2) = v at *
      have HV := Lib.hid hv
      have hsk := sk_dye (k := 2) hx8 hy8 (by omega)
      have hAe : e (66 + y * 24 + x * 3 + 2) = v := hA
      have hn3 : mn (v * p / 16) (900 - ((a + n0) + (b + n1) + d)) = n2 := by rw [show (a + n0) + (b + n1) + d = (a + b + d + n0 + n1) by omega]; exact hnn
      have hmin := mn_cases (v * p / 16) (900 - ((a + n0) + (b + n1) + d))
      rw [hn3] at hmin
      clear hC hrb hv hA hnn
      go_wp2
      go_quiet (fail)
      go_wp2_with (first | (go_at_call 69; refine (l04Load_any _ (a + n0) (b + n1) d wt sh _ ⟨by omega, by omega, by omega, h4, h5⟩ (by (go_simp <;> (intros; omega)))).mono ?_; rintro e w1 ⟨rfl, hb1⟩; have r1 := keep_rowA hb1; have f1 := keep_frA hb1; have s1 := hb1.size; (try simp only [World.size_alloc, World.size_setCell, setRow_size, World.size_drew, size_drewNm] at r1 f1 s1)) | (go_at_call 68; refine (l00Min_any _ _ _).mono ?_; rintro e w1 ⟨rfl, rfl⟩))
      go_region
      go_wp2
      go_roundw
      case rel => first | exact ⟨3, by omega, by go_num, by repeat' (first | with_reducible exact Below.refl _ _ | with_reducible assumption | with_reducible refine Below.drew ?_ | with_reducible refine Below.drewN ?_ _ | with_reducible refine Below.alloc ?_ ?_ _ | with_reducible refine Below.setCell ?_ ?_ _ | with_reducible refine Below.setRow ?_ ?_ _ | with_reducible refine below_step (by assumption) ?_ ?_ | (show (_ : Nat) ≤ _; first | omega | (simp <;> omega))), (by first | omega | (simp <;> omega)), by rw [HC.out]; show rowOf _ _ = kc sk 266 (upI e (66 + y * 24 + x * 3 + 2) (v - n2)); go_simp <;> (intros; first | rfl | omega), by (go_simp <;> (intros; omega)), by rw [HNE.out.1, HNE.out.2.1, HNE.out.2.2]; show rowOf _ _ = brush (a + n0) (b + n1) (d + n2) wt sh; go_simp <;> (intros; first | rfl | omega), by (go_simp <;> (intros; omega)), by (go_simp <;> (intros; omega)), by (go_simp <;> (intros; omega)), by (go_simp <;> (intros; omega)), by (go_simp <;> (intros; omega)), by (go_simp <;> (intros; omega))⟩ | ((repeat (with_reducible apply Exists.intro)); refine And.intro ?_ ?_; rotate_left; focus ((repeat' (with_reducible apply And.intro)) <;> rfl); exact ⟨3, by omega, by go_num, by repeat' (first | with_reducible exact Below.refl _ _ | with_reducible assumption | with_reducible refine Below.drew ?_ | with_reducible refine Below.drewN ?_ _ | with_reducible refine Below.alloc ?_ ?_ _ | with_reducible refine Below.setCell ?_ ?_ _ | with_reducible refine Below.setRow ?_ ?_ _ | with_reducible refine below_step (by assumption) ?_ ?_ | (show (_ : Nat) ≤ _; first | omega | (simp <;> omega))), (by first | omega | (simp <;> omega)), by rw [HC.out]; show rowOf _ _ = kc sk 266 (upI e (66 + y * 24 + x * 3 + 2) (v - n2)); go_simp <;> (intros; first | rfl | omega), by (go_simp <;> (intros; omega)), by rw [HNE.out.1, HNE.out.2.1, HNE.out.2.2]; show rowOf _ _ = brush (a + n0) (b + n1) (d + n2) wt sh; go_simp <;> (intros; first | rfl | omega), by (go_simp <;> (intros; omega)), by (go_simp <;> (intros; omega)), by (go_simp <;> (intros; omega)), by (go_simp <;> (intros; omega)), by (go_simp <;> (intros; omega)), by (go_simp <;> (intros; omega))⟩)
      case measure => simp [intOf]
    · have hrb2 : rowOf wr (w.heap.size + 1) = brush (a + n0) (b + n1) (d + n2) wt sh := hrb
      clear hrb
      go_wp2
      go_region
      all_goals
        go_wp2
        rw [HVV.out]
        refine bodyPost_ret (v := .tuple #[.agg (kc sk 266 (liftC c (dyeP x y) (a + b + d) p 3)), .agg (brush (a + n0) (b + n1) (d + n2) wt sh), .int .i64 0]) (res_cct rfl rfl (by (go_simp <;> (intros; omega))) rfl (by (go_simp <;> (intros; omega))) rfl) rfl ⟨rfl, by repeat' (first | with_reducible exact Below.refl _ _ | with_reducible assumption | with_reducible refine Below.drew ?_ | with_reducible refine Below.drewN ?_ _ | with_reducible refine Below.alloc ?_ ?_ _ | with_reducible refine Below.setCell ?_ ?_ _ | with_reducible refine Below.setRow ?_ ?_ _ | with_reducible refine below_step (by assumption) ?_ ?_ | (show (_ : Nat) ≤ _; first | omega | (simp <;> omega)))⟩
end Go.Proofs.Ytigiooollonmjaa
