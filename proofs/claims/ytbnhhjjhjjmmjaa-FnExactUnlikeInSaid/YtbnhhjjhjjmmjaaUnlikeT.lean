/- The cells that two pictures do not show alike: the program at the top. -/
import Derived.Test.YtbnhhjjhjjmmjaaUnlikeI
namespace Go.Proofs.Ytbnhhjjhjjmmjaa
open Go.RowKit
set_option linter.unusedVariables false
set_option linter.unusedSimpArgs false
set_option maxRecDepth 100000
set_option maxHeartbeats 8000000 in
theorem iUnlike_any (c d : Nat → Int) (hfc : FitPicture c) (hfd : FitPicture d) (w : World) : Calls Try.prog 10 #[.agg (kc pk 66 c), .agg (kc pk 66 d)] w fun e w' => ∃ v, e = .returned (.tuple #[v, .int .i64 (unCode c d)]) ∧ OwnK .i8 2 w' w.heap.size v (unC c d) (unE c d) ∧ Below w.heap.size w w' := by
  have hOc := fun w => iValidPicture_any c hfc w
  have hOd := fun w => iValidPicture_any d hfd w
  rcases Bool.eq_false_or_eq_true (okP c) with hoc | hoc
  case inr =>
    obtain ⟨e1, e2⟩ := un_no (c := c) (d := d) (by simp [hoc])
    rw [e1, e2]
    rw [hoc] at hOc
    have HOc := Lib.hid hOc
    clear hOc hOd hoc e1 e2
    go_enter Try.func10, Try.ntmps10
    go_wp2_with ((go_at_call 39; with_reducible refine (HOc.out _).mono ?_; rintro e w1 ⟨rfl, hb1⟩; have r1 := keep_rowA hb1; have f1 := keep_frA hb1; have s1 := hb1.size; (try simp only [World.size_alloc, World.size_setCell, setRow_size, World.size_drew, size_drewNm] at r1 f1 s1)))
    refine bodyPost_ret (v := .tuple #[.slice none 0 0, .int .i64 1]) (res_tt rfl rfl rfl) rfl ⟨_, rfl, .inl ⟨rfl, rfl⟩, by repeat' (first | with_reducible exact Below.refl _ _ | with_reducible assumption | with_reducible refine Below.drew ?_ | with_reducible refine Below.drewN ?_ _ | with_reducible refine Below.alloc ?_ ?_ _ | with_reducible refine Below.setCell ?_ ?_ _ | with_reducible refine Below.setRow ?_ ?_ _ | with_reducible refine below_step (by assumption) ?_ ?_ | (show (_ : Nat) ≤ _; first | omega | (simp <;> omega)))⟩
  rcases Bool.eq_false_or_eq_true (okP d) with hod | hod
  case inr =>
    obtain ⟨e1, e2⟩ := un_no (c := c) (d := d) (by simp [hod])
    rw [e1, e2]
    rw [hoc] at hOc
    rw [hod] at hOd
    have HOc := Lib.hid hOc
    have HOd := Lib.hid hOd
    clear hOc hOd hoc hod e1 e2
    go_enter Try.func10, Try.ntmps10
    go_wp2_with (first | (go_at_call 39; with_reducible refine (HOc.out _).mono ?_; rintro e w1 ⟨rfl, hb1⟩; have r1 := keep_rowA hb1; have f1 := keep_frA hb1; have s1 := hb1.size; (try simp only [World.size_alloc, World.size_setCell, setRow_size, World.size_drew, size_drewNm] at r1 f1 s1)) | (go_at_call 39; with_reducible refine (HOd.out _).mono ?_; rintro e w1 ⟨rfl, hb1⟩; have r1 := keep_rowA hb1; have f1 := keep_frA hb1; have s1 := hb1.size; (try simp only [World.size_alloc, World.size_setCell, setRow_size, World.size_drew, size_drewNm] at r1 f1 s1)))
    refine bodyPost_ret (v := .tuple #[.slice none 0 0, .int .i64 1]) (res_tt rfl rfl rfl) rfl ⟨_, rfl, .inl ⟨rfl, rfl⟩, by repeat' (first | with_reducible exact Below.refl _ _ | with_reducible assumption | with_reducible refine Below.drew ?_ | with_reducible refine Below.drewN ?_ _ | with_reducible refine Below.alloc ?_ ?_ _ | with_reducible refine Below.setCell ?_ ?_ _ | with_reducible refine Below.setRow ?_ ?_ _ | with_reducible refine below_step (by assumption) ?_ ?_ | (show (_ : Nat) ≤ _; first | omega | (simp <;> omega)))⟩
  by_cases hs : c 0 = d 0 ∧ c 1 = d 1
  case neg =>
    obtain ⟨e1, e2⟩ := un_apart ⟨hoc, hod⟩ hs
    rw [e1, e2]
    rw [hoc] at hOc
    rw [hod] at hOd
    have HOc := Lib.hid hOc
    have HOd := Lib.hid hOd
    clear hOc hOd hoc hod e1 e2
    by_cases h0 : c 0 = d 0
    · have h1 : ¬ c 1 = d 1 := fun e => hs ⟨h0, e⟩
      have hb0 : (c 0 != d 0) = false := by simpa using h0
      have hb1 : (c 1 != d 1) = true := by simpa using h1
      clear hs h1
      go_enter Try.func10, Try.ntmps10
      go_wp2_with (first | (go_at_call 39; with_reducible refine (HOc.out _).mono ?_; rintro e w1 ⟨rfl, hb1⟩; have r1 := keep_rowA hb1; have f1 := keep_frA hb1; have s1 := hb1.size; (try simp only [World.size_alloc, World.size_setCell, setRow_size, World.size_drew, size_drewNm] at r1 f1 s1)) | (go_at_call 39; with_reducible refine (HOd.out _).mono ?_; rintro e w1 ⟨rfl, hb1⟩; have r1 := keep_rowA hb1; have f1 := keep_frA hb1; have s1 := hb1.size; (try simp only [World.size_alloc, World.size_setCell, setRow_size, World.size_drew, size_drewNm] at r1 f1 s1)))
      refine bodyPost_ret (v := .tuple #[.slice none 0 0, .int .i64 4]) (res_tt rfl rfl rfl) rfl ⟨_, rfl, .inl ⟨rfl, rfl⟩, by repeat' (first | with_reducible exact Below.refl _ _ | with_reducible assumption | with_reducible refine Below.drew ?_ | with_reducible refine Below.drewN ?_ _ | with_reducible refine Below.alloc ?_ ?_ _ | with_reducible refine Below.setCell ?_ ?_ _ | with_reducible refine Below.setRow ?_ ?_ _ | with_reducible refine below_step (by assumption) ?_ ?_ | (show (_ : Nat) ≤ _; first | omega | (simp <;> omega)))⟩
    · have hb0 : (c 0 != d 0) = true := by simpa using h0
      clear hs h0
      go_enter Try.func10, Try.ntmps10
      go_wp2_with (first | (go_at_call 39; with_reducible refine (HOc.out _).mono ?_; rintro e w1 ⟨rfl, hb1⟩; have r1 := keep_rowA hb1; have f1 := keep_frA hb1; have s1 := hb1.size; (try simp only [World.size_alloc, World.size_setCell, setRow_size, World.size_drew, size_drewNm] at r1 f1 s1)) | (go_at_call 39; with_reducible refine (HOd.out _).mono ?_; rintro e w1 ⟨rfl, hb1⟩; have r1 := keep_rowA hb1; have f1 := keep_frA hb1; have s1 := hb1.size; (try simp only [World.size_alloc, World.size_setCell, setRow_size, World.size_drew, size_drewNm] at r1 f1 s1)))
      refine bodyPost_ret (v := .tuple #[.slice none 0 0, .int .i64 4]) (res_tt rfl rfl rfl) rfl ⟨_, rfl, .inl ⟨rfl, rfl⟩, by repeat' (first | with_reducible exact Below.refl _ _ | with_reducible assumption | with_reducible refine Below.drew ?_ | with_reducible refine Below.drewN ?_ _ | with_reducible refine Below.alloc ?_ ?_ _ | with_reducible refine Below.setCell ?_ ?_ _ | with_reducible refine Below.setRow ?_ ?_ _ | with_reducible refine below_step (by assumption) ?_ ?_ | (show (_ : Nat) ≤ _; first | omega | (simp <;> omega)))⟩
  obtain ⟨W, H, hW, hH, W0, H0, W8, H8⟩ := okP_sides hoc
  obtain ⟨e1, e2, e3⟩ := un_yes ⟨hoc, hod⟩ hs hW hH
  rw [e1, e2, e3]
  have HT := Lib.hid (fun s p q w hs hss hr hp hr2 hq => that_unlike s p q c d hfc hfd (blank (c 0) (c 1)) (fit_blank hfc) W H (by exact hW) (by exact hH) W0 H0 W8 H8 w hs hss hr hp hr2 hq)
  have HSH := Lib.hid (fun p w hr hp => sheet_any p c hfc w hr hp)
  rw [hoc] at hOc
  rw [hod] at hOd
  have HOc := Lib.hid hOc
  have HOd := Lib.hid hOd
  have hb0 : (c 0 != d 0) = false := by simpa using hs.1
  have hb1 : (c 1 != d 1) = false := by simpa using hs.2
  clear hOc hOd hoc hod e1 e2 e3 hs hW hH
  generalize selN (unU c d W) (H * W) = n at *
  generalize selE (unU c d W) W (H * W) = f at *
  go_enter Try.func10, Try.ntmps10
  go_wp2_with (first | (go_at_call 39; with_reducible refine (HOc.out _).mono ?_; rintro e w1 ⟨rfl, hb1⟩; have r1 := keep_rowA hb1; have f1 := keep_frA hb1; have s1 := hb1.size; (try simp only [World.size_alloc, World.size_setCell, setRow_size, World.size_drew, size_drewNm] at r1 f1 s1)) | (go_at_call 39; with_reducible refine (HOd.out _).mono ?_; rintro e w1 ⟨rfl, hb1⟩; have r1 := keep_rowA hb1; have f1 := keep_frA hb1; have s1 := hb1.size; (try simp only [World.size_alloc, World.size_setCell, setRow_size, World.size_drew, size_drewNm] at r1 f1 s1)) | (go_at_call 40; refine (HSH.out _ _ (by (go_simp <;> (intros; omega))) (by first | omega | (simp <;> omega))).mono ?_; rintro e w2 ⟨q, rfl, hq, hqs, hrq, hb2⟩; have r_hb2 := keep_rowA hb2; have f_hb2 := keep_frA hb2; have s_hb2 := hb2.size; (try simp only [World.size_alloc, World.size_setCell, setRow_size, World.size_drew, size_drewNm] at r_hb2 f_hb2 s_hb2)) | (go_at_call 41; refine (HT.out _ _ _ _ (by (go_simp <;> (intros; omega))) (by first | omega | (simp <;> omega)) (by (go_simp <;> (intros; omega))) (by first | omega | (simp <;> omega)) (by (go_simp <;> (intros; omega))) (by first | omega | (simp <;> omega))).mono ?_; rintro e w3 ⟨v, rfl, ho, hb3⟩; have HV := Lib.hid ho; clear ho))
  refine bodyPost_ret (v := .tuple #[_, .int .i64 0]) (res_tt rfl rfl rfl) rfl ⟨_, rfl, HV.out.down (by first | omega | (simp <;> omega)), by repeat' (first | with_reducible exact Below.refl _ _ | with_reducible assumption | with_reducible refine Below.drew ?_ | with_reducible refine Below.drewN ?_ _ | with_reducible refine Below.alloc ?_ ?_ _ | with_reducible refine Below.setCell ?_ ?_ _ | with_reducible refine Below.setRow ?_ ?_ _ | with_reducible refine below_step (by assumption) ?_ ?_ | (show (_ : Nat) ≤ _; first | omega | (simp <;> omega)))⟩
end Go.Proofs.Ytbnhhjjhjjmmjaa
