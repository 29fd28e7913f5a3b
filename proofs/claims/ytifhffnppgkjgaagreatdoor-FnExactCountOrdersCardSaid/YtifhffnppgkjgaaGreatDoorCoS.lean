/- In how many orders marks make a picture: both sides. -/
import Derived.Test.YtifhffnppgkjgaaGreatDoorOrdT
namespace Go.Proofs.YtifhffnppgkjgaaGreatDoor
open Go.RowKit
set_option linter.unusedVariables false
set_option linter.unusedSimpArgs false
set_option maxRecDepth 100000
theorem co_no {c : Nat → Int} {n : Nat} {F : Nat → Mk} (P : List (List UInt8)) (h : vmB c n F = false) : coN c n F P = 0 ∧ coE c n F = 1 := by
  unfold coN coE
  rw [h, if_neg (by decide), if_neg (by decide)]
  exact ⟨rfl, rfl⟩
theorem co_yes {c : Nat → Int} {n : Nat} {F : Nat → Mk} (P : List (List UInt8)) (h : vmB c n F = true) : coN c n F P = ((allO c n F P).length : Int) ∧ coE c n F = 0 := by
  unfold coN coE
  rw [h, if_pos rfl, if_pos rfl]
  exact ⟨rfl, rfl⟩
theorem vmB_setO (c : Nat → Int) (n : Nat) (F : Nat → Mk) (G : Nat → Value) : vmB c n (setV F G) = vmB c n F := rfl
theorem coN_set (c : Nat → Int) (n : Nat) (F : Nat → Mk) (G : Nat → Value) (P : List (List UInt8)) : coN c n (setV F G) P = coN c n F P := by
  unfold coN
  rw [allO_set, vmB_setO]
theorem coE_set (c : Nat → Int) (n : Nat) (F : Nat → Mk) (G : Nat → Value) : coE c n (setV F G) = coE c n F := by
  unfold coE
  rw [vmB_setO]
set_option maxHeartbeats 4000000 in
theorem sCountOrders_any (c : Nat → Int) (hfc : FitSheet c) (v : Value) (n b : Nat) (F : Nat → Mk) (hn : n ≤ 1048576) (hF : ∀ k, k < n → MkIn (F k) ∧ (F k).n ≤ 1048576) (pv : Value) (bp : Nat) (P : List (List UInt8)) (hP : P.length ≤ 1048576) (w : World) (h : OwnM w b v n F) (hpv : OwnT w bp pv P) :
    Calls Tryz.prog 9 #[.agg (kc sk 266 c), v, pv] w fun e w' => e = .returned (.tuple #[.int .i64 (coN c n F P), .int .i64 (coE c n F)]) ∧ Below w.heap.size w w' := by
  have HX0 := fun p w h1 h2 h3 => l06Marks_any p c hfc v n b F hn hF w h1 h2 h3
  have HH := Lib.hid h
  have HPV := Lib.hid hpv
  rcases Bool.eq_false_or_eq_true (vmB c n F) with hv | hv
  · obtain ⟨hok, h6, hlay⟩ := vm_lay hv
    rw [hv] at HX0
    rw [(co_yes P hv).1, (co_yes P hv).2]
    have HX := Lib.hid HX0
    have HA := Lib.hid (fun p lv bl w h1 h2 h3 h4 h5 => sAll_any p c hfc hok v n b F h6 hlay pv bp P hP lv bl w h1 h2 h3 h4 h5)
    clear h hpv hF hv hok hlay HX0
    generalize allO c n F P = L at *
    go_enter Tryz.func9, Tryz.ntmps9
    go_wp2_with (first | (go_at_call 28; refine (HX.out w.heap.size _ (by (go_simp <;> (intros; omega))) (by first | omega | (simp <;> omega)) (HH.out.below (by repeat' (first | with_reducible exact Below.refl _ _ | with_reducible assumption | with_reducible refine Below.drew ?_ | with_reducible refine Below.drewN ?_ _ | with_reducible refine Below.alloc ?_ ?_ _ | with_reducible refine Below.setCell ?_ ?_ _ | with_reducible refine Below.setRow ?_ ?_ _ | with_reducible refine below_step (by assumption) ?_ ?_ | (show (_ : Nat) ≤ _; first | omega | (simp <;> omega)))) (Nat.le_refl _))).mono ?_; rintro e w1 ⟨rfl, hb1⟩; have r1 := keep_rowA hb1; have f1 := keep_frA hb1; have s1 := hb1.size; (try simp only [World.size_alloc, World.size_setCell, setRow_size, World.size_drew, size_drewNm] at r1 f1 s1)) | (go_at_call 29; refine (HA.out w.heap.size _ w1.heap.size _ (by (go_simp <;> (intros; omega))) (by first | omega | (simp <;> omega)) (HH.out.below (by repeat' (first | with_reducible exact Below.refl _ _ | with_reducible assumption | with_reducible refine Below.drew ?_ | with_reducible refine Below.drewN ?_ _ | with_reducible refine Below.alloc ?_ ?_ _ | with_reducible refine Below.setCell ?_ ?_ _ | with_reducible refine Below.setRow ?_ ?_ _ | with_reducible refine below_step (by assumption) ?_ ?_ | (show (_ : Nat) ≤ _; first | omega | (simp <;> omega)))) (Nat.le_refl _)) (HPV.out.below (by repeat' (first | with_reducible exact Below.refl _ _ | with_reducible assumption | with_reducible refine Below.drew ?_ | with_reducible refine Below.drewN ?_ _ | with_reducible refine Below.alloc ?_ ?_ _ | with_reducible refine Below.setCell ?_ ?_ _ | with_reducible refine Below.setRow ?_ ?_ _ | with_reducible refine below_step (by assumption) ?_ ?_ | (show (_ : Nat) ≤ _; first | omega | (simp <;> omega)))) (Nat.le_refl _)) (own_empty_i64 _ _)).mono ?_; rintro e w2 ⟨v2, rfl, hall, hb2⟩; obtain ⟨ar, cr, rfl⟩ := hall.len; clear hall; have r_hb2 := keep_rowA hb2; have f_hb2 := keep_frA hb2; have s_hb2 := hb2.size; (try simp only [World.size_alloc, World.size_setCell, setRow_size, World.size_drew, size_drewNm] at r_hb2 f_hb2 s_hb2)))
    refine bodyPost_ret (v := (.tuple #[.int .i64 (L.length : Int), .int .i64 0])) (res_tt rfl rfl rfl) rfl ⟨rfl, by repeat' (first | with_reducible exact Below.refl _ _ | with_reducible assumption | with_reducible refine Below.drew ?_ | with_reducible refine Below.drewN ?_ _ | with_reducible refine Below.alloc ?_ ?_ _ | with_reducible refine Below.setCell ?_ ?_ _ | with_reducible refine Below.setRow ?_ ?_ _ | with_reducible refine below_step (by assumption) ?_ ?_ | (show (_ : Nat) ≤ _; first | omega | (simp <;> omega)))⟩
  · rw [hv] at HX0
    rw [(co_no P hv).1, (co_no P hv).2]
    have HX := Lib.hid HX0
    clear h hpv hF hv HX0
    go_enter Tryz.func9, Tryz.ntmps9
    go_wp2_with (go_at_call 28; refine (HX.out w.heap.size _ (by (go_simp <;> (intros; omega))) (by first | omega | (simp <;> omega)) (HH.out.below (by repeat' (first | with_reducible exact Below.refl _ _ | with_reducible assumption | with_reducible refine Below.drew ?_ | with_reducible refine Below.drewN ?_ _ | with_reducible refine Below.alloc ?_ ?_ _ | with_reducible refine Below.setCell ?_ ?_ _ | with_reducible refine Below.setRow ?_ ?_ _ | with_reducible refine below_step (by assumption) ?_ ?_ | (show (_ : Nat) ≤ _; first | omega | (simp <;> omega)))) (Nat.le_refl _))).mono ?_; rintro e w1 ⟨rfl, hb1⟩; have r1 := keep_rowA hb1; have f1 := keep_frA hb1; have s1 := hb1.size; (try simp only [World.size_alloc, World.size_setCell, setRow_size, World.size_drew, size_drewNm] at r1 f1 s1))
    refine bodyPost_ret (v := (.tuple #[.int .i64 0, .int .i64 1])) (res_tt rfl rfl rfl) rfl ⟨rfl, by repeat' (first | with_reducible exact Below.refl _ _ | with_reducible assumption | with_reducible refine Below.drew ?_ | with_reducible refine Below.drewN ?_ _ | with_reducible refine Below.alloc ?_ ?_ _ | with_reducible refine Below.setCell ?_ ?_ _ | with_reducible refine Below.setRow ?_ ?_ _ | with_reducible refine below_step (by assumption) ?_ ?_ | (show (_ : Nat) ≤ _; first | omega | (simp <;> omega)))⟩
set_option maxHeartbeats 4000000 in
theorem iCountOrders_any (c : Nat → Int) (hfc : FitSheet c) (v : Value) (n b : Nat) (F : Nat → Mk) (hn : n ≤ 1048576) (hF : ∀ k, k < n → MkIn (F k) ∧ (F k).n ≤ 1048576) (pv : Value) (bp : Nat) (P : List (List UInt8)) (hP : P.length ≤ 1048576) (w : World) (h : OwnM w b v n F) (hpv : OwnT w bp pv P) (hmx : MxW w) :
    Calls Tryz.prog 13 #[.agg (kc sk 266 c), v, pv] w fun e w' => e = .returned (.tuple #[.int .i64 (coN c n F P), .int .i64 (coE c n F)]) ∧ Below w.heap.size w w' := by
  have HX0 := fun w h1 => iValidMarks_any c hfc v n b F hn hF w h1
  have HH := Lib.hid h
  have HPV := Lib.hid hpv
  have HMX := Lib.hid hmx
  rcases Bool.eq_false_or_eq_true (vmB c n F) with hv | hv
  · obtain ⟨hok, h6, hlay⟩ := vm_lay hv
    rw [hv] at HX0
    rw [(co_yes P hv).1, (co_yes P hv).2]
    have HX := Lib.hid HX0
    have HA := Lib.hid (fun p w h1 h2 h3 h4 h5 => iAll_any p c hfc hok v n b F h6 hlay pv bp P hP w h1 h2 h3 h4 h5)
    have HSZ := Lib.hid (fun w0 v w1 w h => size_lists w0 v (allO c n F P) w1 w h)
    clear h hpv hF hv hok hlay HX0 hmx
    generalize allO c n F P = L at *
    go_enter Tryz.func13, Tryz.ntmps13
    go_wp2_with (first | (go_at_call 34; refine (HX.out _ (HH.out.below (by repeat' (first | with_reducible exact Below.refl _ _ | with_reducible assumption | with_reducible refine Below.drew ?_ | with_reducible refine Below.drewN ?_ _ | with_reducible refine Below.alloc ?_ ?_ _ | with_reducible refine Below.setCell ?_ ?_ _ | with_reducible refine Below.setRow ?_ ?_ _ | with_reducible refine below_step (by assumption) ?_ ?_ | (show (_ : Nat) ≤ _; first | omega | (simp <;> omega)))) (Nat.le_refl _))).mono ?_; rintro e w1 ⟨rfl, hb1⟩; have r1 := keep_rowA hb1; have f1 := keep_frA hb1; have s1 := hb1.size; (try simp only [World.size_alloc, World.size_setCell, setRow_size, World.size_drew, size_drewNm] at r1 f1 s1)) | (go_at_call 36; refine (HA.out w.heap.size _ (by (go_simp <;> (intros; omega))) (by first | omega | (simp <;> omega)) (HH.out.below (by repeat' (first | with_reducible exact Below.refl _ _ | with_reducible assumption | with_reducible refine Below.drew ?_ | with_reducible refine Below.drewN ?_ _ | with_reducible refine Below.alloc ?_ ?_ _ | with_reducible refine Below.setCell ?_ ?_ _ | with_reducible refine Below.setRow ?_ ?_ _ | with_reducible refine below_step (by assumption) ?_ ?_ | (show (_ : Nat) ≤ _; first | omega | (simp <;> omega)))) (Nat.le_refl _)) (HPV.out.below (by repeat' (first | with_reducible exact Below.refl _ _ | with_reducible assumption | with_reducible refine Below.drew ?_ | with_reducible refine Below.drewN ?_ _ | with_reducible refine Below.alloc ?_ ?_ _ | with_reducible refine Below.setCell ?_ ?_ _ | with_reducible refine Below.setRow ?_ ?_ _ | with_reducible refine below_step (by assumption) ?_ ?_ | (show (_ : Nat) ≤ _; first | omega | (simp <;> omega)))) (Nat.le_refl _)) (HMX.out.below (by repeat' (first | with_reducible exact Below.refl _ _ | with_reducible assumption | with_reducible refine Below.drew ?_ | with_reducible refine Below.drewN ?_ _ | with_reducible refine Below.alloc ?_ ?_ _ | with_reducible refine Below.setCell ?_ ?_ _ | with_reducible refine Below.setRow ?_ ?_ _ | with_reducible refine below_step (by assumption) ?_ ?_ | (show (_ : Nat) ≤ _; first | omega | (simp <;> omega)))))).mono ?_; rintro e w2 ⟨v2, rfl, hall, hb2⟩; have HALL := Lib.hid hall; clear hall; have r_hb2 := keep_rowA hb2; have f_hb2 := keep_frA hb2; have s_hb2 := hb2.size; (try simp only [World.size_alloc, World.size_setCell, setRow_size, World.size_drew, size_drewNm] at r_hb2 f_hb2 s_hb2)) | (go_at_call 35; refine (HSZ.out _ _ _ _ HALL.out).mono ?_; rintro e w3 ⟨rfl, rfl⟩))
    refine bodyPost_ret (v := (.tuple #[.int .i64 (L.length : Int), .int .i64 0])) (res_tt rfl rfl rfl) rfl ⟨rfl, by repeat' (first | with_reducible exact Below.refl _ _ | with_reducible assumption | with_reducible refine Below.drew ?_ | with_reducible refine Below.drewN ?_ _ | with_reducible refine Below.alloc ?_ ?_ _ | with_reducible refine Below.setCell ?_ ?_ _ | with_reducible refine Below.setRow ?_ ?_ _ | with_reducible refine below_step (by assumption) ?_ ?_ | (show (_ : Nat) ≤ _; first | omega | (simp <;> omega)))⟩
  · rw [hv] at HX0
    rw [(co_no P hv).1, (co_no P hv).2]
    have HX := Lib.hid HX0
    clear h hpv hF hv HX0
    go_enter Tryz.func13, Tryz.ntmps13
    go_wp2_with (go_at_call 34; refine (HX.out _ (HH.out.below (by repeat' (first | with_reducible exact Below.refl _ _ | with_reducible assumption | with_reducible refine Below.drew ?_ | with_reducible refine Below.drewN ?_ _ | with_reducible refine Below.alloc ?_ ?_ _ | with_reducible refine Below.setCell ?_ ?_ _ | with_reducible refine Below.setRow ?_ ?_ _ | with_reducible refine below_step (by assumption) ?_ ?_ | (show (_ : Nat) ≤ _; first | omega | (simp <;> omega)))) (Nat.le_refl _))).mono ?_; rintro e w1 ⟨rfl, hb1⟩; have r1 := keep_rowA hb1; have f1 := keep_frA hb1; have s1 := hb1.size; (try simp only [World.size_alloc, World.size_setCell, setRow_size, World.size_drew, size_drewNm] at r1 f1 s1))
    refine bodyPost_ret (v := (.tuple #[.int .i64 0, .int .i64 1])) (res_tt rfl rfl rfl) rfl ⟨rfl, by repeat' (first | with_reducible exact Below.refl _ _ | with_reducible assumption | with_reducible refine Below.drew ?_ | with_reducible refine Below.drewN ?_ _ | with_reducible refine Below.alloc ?_ ?_ _ | with_reducible refine Below.setCell ?_ ?_ _ | with_reducible refine Below.setRow ?_ ?_ _ | with_reducible refine below_step (by assumption) ?_ ?_ | (show (_ : Nat) ≤ _; first | omega | (simp <;> omega)))⟩
end Go.Proofs.YtifhffnppgkjgaaGreatDoor
