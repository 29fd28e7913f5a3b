/- Dipping a brush: one side. Written by gen_dip.py. -/
import Derived.Test.YtjfbolelanmndaaDipV
namespace Go.Proofs.Ytjfbolelanmndaa
open Go.RowKit
set_option linter.unusedVariables false
set_option linter.unusedSimpArgs false
set_option maxRecDepth 100000
set_option maxHeartbeats 40000000 in
theorem sDip_any (a b c wt sh k n m : Int) (w : World) (hf : FitBrush a b c wt sh) :
    Calls Try.prog 34 #[.agg (brush a b c wt sh), .int .i64 k, .int .i64 n, .int .i64 m] w fun e w' => e = .returned (dipV a b c wt sh k n m) ∧ Below w.heap.size w w' := by
  have ⟨h1, h2, h3, h4, h5⟩ := hf
  cases ho : okBrush a b c wt sh
  case false =>
    rw [show dipV a b c wt sh k n m = .tuple #[.agg (brush 0 0 0 0 0), .int .i64 1] by unfold dipV; rw [if_neg (by simp [ho])]]
    go_enter Try.func34, Try.ntmps34
    go_wp2_with (first | (go_at_call 69; refine (l04Ok_any _ a b c wt sh _ hf ?_ ?_).mono ?_; (focus (go_simp <;> (intros; omega))); (focus (first | omega | (simp <;> omega))); rintro e w1 ⟨rfl, hb1⟩; have r1 := keep_rowA hb1; have f1 := keep_frA hb1; have s1 := hb1.size; try simp only [World.size_alloc, World.size_setCell, setRow_size, World.size_drew] at r1 f1 s1))
    refine bodyPost_ret (v := .tuple #[.agg (brush 0 0 0 0 0), .int .i64 1]) (res_ct rfl rfl (by (go_simp <;> (intros; omega))) rfl) rfl ⟨rfl, by repeat' (first | with_reducible exact Below.refl _ _ | with_reducible assumption | with_reducible refine Below.drew ?_ | with_reducible refine Below.drewN ?_ _ | with_reducible refine Below.alloc ?_ ?_ _ | with_reducible refine Below.setCell ?_ ?_ _ | with_reducible refine Below.setRow ?_ ?_ _ | with_reducible refine below_step (by assumption) ?_ ?_ | (show (_ : Nat) ≤ _; first | omega | (simp <;> omega)))⟩
  cases hk : inB k 0 2
  case false =>
    rw [show dipV a b c wt sh k n m = .tuple #[.agg (brush 0 0 0 0 0), .int .i64 2] by unfold dipV; rw [if_pos ho, if_neg (by simp [hk])]]
    go_enter Try.func34, Try.ntmps34
    go_wp2_with (first | (go_at_call 69; refine (l04Ok_any _ a b c wt sh _ hf ?_ ?_).mono ?_; (focus (go_simp <;> (intros; omega))); (focus (first | omega | (simp <;> omega))); rintro e w1 ⟨rfl, hb1⟩; have r1 := keep_rowA hb1; have f1 := keep_frA hb1; have s1 := hb1.size; try simp only [World.size_alloc, World.size_setCell, setRow_size, World.size_drew] at r1 f1 s1) | (go_at_call 59; refine (l01Ink_any _ _).mono ?_; rintro e w1 ⟨rfl, rfl⟩) | (go_at_call 70; refine (l00In_any _ _ _ _).mono ?_; rintro e w1 ⟨rfl, rfl⟩))
    refine bodyPost_ret (v := .tuple #[.agg (brush 0 0 0 0 0), .int .i64 2]) (res_ct rfl rfl (by (go_simp <;> (intros; omega))) rfl) rfl ⟨rfl, by repeat' (first | with_reducible exact Below.refl _ _ | with_reducible assumption | with_reducible refine Below.drew ?_ | with_reducible refine Below.drewN ?_ _ | with_reducible refine Below.alloc ?_ ?_ _ | with_reducible refine Below.setCell ?_ ?_ _ | with_reducible refine Below.setRow ?_ ?_ _ | with_reducible refine below_step (by assumption) ?_ ?_ | (show (_ : Nat) ≤ _; first | omega | (simp <;> omega)))⟩
  cases hn : inB n 0 900
  case false =>
    rw [show dipV a b c wt sh k n m = .tuple #[.agg (brush 0 0 0 0 0), .int .i64 2] by unfold dipV; rw [if_pos ho, if_neg (by simp [hn])]]
    go_enter Try.func34, Try.ntmps34
    go_wp2_with (first | (go_at_call 69; refine (l04Ok_any _ a b c wt sh _ hf ?_ ?_).mono ?_; (focus (go_simp <;> (intros; omega))); (focus (first | omega | (simp <;> omega))); rintro e w1 ⟨rfl, hb1⟩; have r1 := keep_rowA hb1; have f1 := keep_frA hb1; have s1 := hb1.size; try simp only [World.size_alloc, World.size_setCell, setRow_size, World.size_drew] at r1 f1 s1) | (go_at_call 59; refine (l01Ink_any _ _).mono ?_; rintro e w1 ⟨rfl, rfl⟩) | (go_at_call 70; refine (l00In_any _ _ _ _).mono ?_; rintro e w1 ⟨rfl, rfl⟩))
    refine bodyPost_ret (v := .tuple #[.agg (brush 0 0 0 0 0), .int .i64 2]) (res_ct rfl rfl (by (go_simp <;> (intros; omega))) rfl) rfl ⟨rfl, by repeat' (first | with_reducible exact Below.refl _ _ | with_reducible assumption | with_reducible refine Below.drew ?_ | with_reducible refine Below.drewN ?_ _ | with_reducible refine Below.alloc ?_ ?_ _ | with_reducible refine Below.setCell ?_ ?_ _ | with_reducible refine Below.setRow ?_ ?_ _ | with_reducible refine below_step (by assumption) ?_ ?_ | (show (_ : Nat) ≤ _; first | omega | (simp <;> omega)))⟩
  cases hm : inB m 0 200
  case false =>
    rw [show dipV a b c wt sh k n m = .tuple #[.agg (brush 0 0 0 0 0), .int .i64 2] by unfold dipV; rw [if_pos ho, if_neg (by simp [hm])]]
    go_enter Try.func34, Try.ntmps34
    go_wp2_with (first | (go_at_call 69; refine (l04Ok_any _ a b c wt sh _ hf ?_ ?_).mono ?_; (focus (go_simp <;> (intros; omega))); (focus (first | omega | (simp <;> omega))); rintro e w1 ⟨rfl, hb1⟩; have r1 := keep_rowA hb1; have f1 := keep_frA hb1; have s1 := hb1.size; try simp only [World.size_alloc, World.size_setCell, setRow_size, World.size_drew] at r1 f1 s1) | (go_at_call 59; refine (l01Ink_any _ _).mono ?_; rintro e w1 ⟨rfl, rfl⟩) | (go_at_call 70; refine (l00In_any _ _ _ _).mono ?_; rintro e w1 ⟨rfl, rfl⟩))
    refine bodyPost_ret (v := .tuple #[.agg (brush 0 0 0 0 0), .int .i64 2]) (res_ct rfl rfl (by (go_simp <;> (intros; omega))) rfl) rfl ⟨rfl, by repeat' (first | with_reducible exact Below.refl _ _ | with_reducible assumption | with_reducible refine Below.drew ?_ | with_reducible refine Below.drewN ?_ _ | with_reducible refine Below.alloc ?_ ?_ _ | with_reducible refine Below.setCell ?_ ?_ _ | with_reducible refine Below.setRow ?_ ?_ _ | with_reducible refine below_step (by assumption) ?_ ?_ | (show (_ : Nat) ≤ _; first | omega | (simp <;> omega)))⟩
  have ⟨o1, o2, o3, o4, o5, o6, o7, o8, o9, o10, o11⟩ := okBrush_in ho
  have ⟨n1, n2⟩ := inB_true.1 hn
  have ⟨m1, m2⟩ := inB_true.1 hm
  have hkk : k = 0 ∨ k = 1 ∨ k = 2 := by have := inB_true.1 hk; omega
  rcases hkk with rfl | rfl | rfl
  · have hf2 : FitBrush (a + n) b c (wt + m) sh := ⟨by omega, by omega, by omega, by omega, h5⟩
    have E : dipV a b c wt sh 0 n m = if okBrush (a + n) b c (wt + m) sh = true then .tuple #[.agg (brush (a + n) b c (wt + m) sh), .int .i64 0] else .tuple #[.agg (brush 0 0 0 0 0), .int .i64 3] := by
      unfold dipV; rw [if_pos ho, if_pos ⟨hk, hn, hm⟩]; simp [dipD]
    cases hq : okBrush (a + n) b c (wt + m) sh
    · rw [E, if_neg (by simp [hq])]
      clear E
      go_enter Try.func34, Try.ntmps34
      go_wp2_with (first | (go_at_call 69; refine (l04Ok_any _ a b c wt sh _ hf ?_ ?_).mono ?_; (focus (go_simp <;> (intros; omega))); (focus (first | omega | (simp <;> omega))); rintro e w1 ⟨rfl, hb1⟩; have r1 := keep_rowA hb1; have f1 := keep_frA hb1; have s1 := hb1.size; try simp only [World.size_alloc, World.size_setCell, setRow_size, World.size_drew] at r1 f1 s1) | (go_at_call 69; refine (l04Ok_any _ (a + n) b c (wt + m) sh _ hf2 ?_ ?_).mono ?_; (focus (go_simp <;> (intros; omega))); (focus (first | omega | (simp <;> omega))); rintro e w1 ⟨rfl, hb1⟩; have r1 := keep_rowA hb1; have f1 := keep_frA hb1; have s1 := hb1.size; try simp only [World.size_alloc, World.size_setCell, setRow_size, World.size_drew] at r1 f1 s1) | (go_at_call 59; refine (l01Ink_any _ _).mono ?_; rintro e w1 ⟨rfl, rfl⟩) | (go_at_call 70; refine (l00In_any _ _ _ _).mono ?_; rintro e w1 ⟨rfl, rfl⟩))
      refine bodyPost_ret (v := .tuple #[.agg (brush 0 0 0 0 0), .int .i64 3]) (res_ct rfl rfl (by (go_simp <;> (intros; omega))) rfl) rfl ⟨rfl, by repeat' (first | with_reducible exact Below.refl _ _ | with_reducible assumption | with_reducible refine Below.drew ?_ | with_reducible refine Below.drewN ?_ _ | with_reducible refine Below.alloc ?_ ?_ _ | with_reducible refine Below.setCell ?_ ?_ _ | with_reducible refine Below.setRow ?_ ?_ _ | with_reducible refine below_step (by assumption) ?_ ?_ | (show (_ : Nat) ≤ _; first | omega | (simp <;> omega)))⟩
    · rw [E, if_pos hq]
      clear E
      go_enter Try.func34, Try.ntmps34
      go_wp2_with (first | (go_at_call 69; refine (l04Ok_any _ a b c wt sh _ hf ?_ ?_).mono ?_; (focus (go_simp <;> (intros; omega))); (focus (first | omega | (simp <;> omega))); rintro e w1 ⟨rfl, hb1⟩; have r1 := keep_rowA hb1; have f1 := keep_frA hb1; have s1 := hb1.size; try simp only [World.size_alloc, World.size_setCell, setRow_size, World.size_drew] at r1 f1 s1) | (go_at_call 69; refine (l04Ok_any _ (a + n) b c (wt + m) sh _ hf2 ?_ ?_).mono ?_; (focus (go_simp <;> (intros; omega))); (focus (first | omega | (simp <;> omega))); rintro e w1 ⟨rfl, hb1⟩; have r1 := keep_rowA hb1; have f1 := keep_frA hb1; have s1 := hb1.size; try simp only [World.size_alloc, World.size_setCell, setRow_size, World.size_drew] at r1 f1 s1) | (go_at_call 59; refine (l01Ink_any _ _).mono ?_; rintro e w1 ⟨rfl, rfl⟩) | (go_at_call 70; refine (l00In_any _ _ _ _).mono ?_; rintro e w1 ⟨rfl, rfl⟩))
      refine bodyPost_ret (v := .tuple #[.agg (brush (a + n) b c (wt + m) sh), .int .i64 0]) (res_ct rfl rfl (by (go_simp <;> (intros; omega))) rfl) rfl ⟨rfl, by repeat' (first | with_reducible exact Below.refl _ _ | with_reducible assumption | with_reducible refine Below.drew ?_ | with_reducible refine Below.drewN ?_ _ | with_reducible refine Below.alloc ?_ ?_ _ | with_reducible refine Below.setCell ?_ ?_ _ | with_reducible refine Below.setRow ?_ ?_ _ | with_reducible refine below_step (by assumption) ?_ ?_ | (show (_ : Nat) ≤ _; first | omega | (simp <;> omega)))⟩
  · have hf2 : FitBrush a (b + n) c (wt + m) sh := ⟨by omega, by omega, by omega, by omega, h5⟩
    have E : dipV a b c wt sh 1 n m = if okBrush a (b + n) c (wt + m) sh = true then .tuple #[.agg (brush a (b + n) c (wt + m) sh), .int .i64 0] else .tuple #[.agg (brush 0 0 0 0 0), .int .i64 3] := by
      unfold dipV; rw [if_pos ho, if_pos ⟨hk, hn, hm⟩]; simp [dipD]
    cases hq : okBrush a (b + n) c (wt + m) sh
    · rw [E, if_neg (by simp [hq])]
      clear E
      go_enter Try.func34, Try.ntmps34
      go_wp2_with (first | (go_at_call 69; refine (l04Ok_any _ a b c wt sh _ hf ?_ ?_).mono ?_; (focus (go_simp <;> (intros; omega))); (focus (first | omega | (simp <;> omega))); rintro e w1 ⟨rfl, hb1⟩; have r1 := keep_rowA hb1; have f1 := keep_frA hb1; have s1 := hb1.size; try simp only [World.size_alloc, World.size_setCell, setRow_size, World.size_drew] at r1 f1 s1) | (go_at_call 69; refine (l04Ok_any _ a (b + n) c (wt + m) sh _ hf2 ?_ ?_).mono ?_; (focus (go_simp <;> (intros; omega))); (focus (first | omega | (simp <;> omega))); rintro e w1 ⟨rfl, hb1⟩; have r1 := keep_rowA hb1; have f1 := keep_frA hb1; have s1 := hb1.size; try simp only [World.size_alloc, World.size_setCell, setRow_size, World.size_drew] at r1 f1 s1) | (go_at_call 59; refine (l01Ink_any _ _).mono ?_; rintro e w1 ⟨rfl, rfl⟩) | (go_at_call 70; refine (l00In_any _ _ _ _).mono ?_; rintro e w1 ⟨rfl, rfl⟩))
      refine bodyPost_ret (v := .tuple #[.agg (brush 0 0 0 0 0), .int .i64 3]) (res_ct rfl rfl (by (go_simp <;> (intros; omega))) rfl) rfl ⟨rfl, by repeat' (first | with_reducible exact Below.refl _ _ | with_reducible assumption | with_reducible refine Below.drew ?_ | with_reducible refine Below.drewN ?_ _ | with_reducible refine Below.alloc ?_ ?_ _ | with_reducible refine Below.setCell ?_ ?_ _ | with_reducible refine Below.setRow ?_ ?_ _ | with_reducible refine below_step (by assumption) ?_ ?_ | (show (_ : Nat) ≤ _; first | omega | (simp <;> omega)))⟩
    · rw [E, if_pos hq]
      clear E
      go_enter Try.func34, Try.ntmps34
      go_wp2_with (first | (go_at_call 69; refine (l04Ok_any _ a b c wt sh _ hf ?_ ?_).mono ?_; (focus (go_simp <;> (intros; omega))); (focus (first | omega | (simp <;> omega))); rintro e w1 ⟨rfl, hb1⟩; have r1 := keep_rowA hb1; have f1 := keep_frA hb1; have s1 := hb1.size; try simp only [World.size_alloc, World.size_setCell, setRow_size, World.size_drew] at r1 f1 s1) | (go_at_call 69; refine (l04Ok_any _ a (b + n) c (wt + m) sh _ hf2 ?_ ?_).mono ?_; (focus (go_simp <;> (intros; omega))); (focus (first | omega | (simp <;> omega))); rintro e w1 ⟨rfl, hb1⟩; have r1 := keep_rowA hb1; have f1 := keep_frA hb1; have s1 := hb1.size; try simp only [World.size_alloc, World.size_setCell, setRow_size, World.size_drew] at r1 f1 s1) | (go_at_call 59; refine (l01Ink_any _ _).mono ?_; rintro e w1 ⟨rfl, rfl⟩) | (go_at_call 70; refine (l00In_any _ _ _ _).mono ?_; rintro e w1 ⟨rfl, rfl⟩))
      refine bodyPost_ret (v := .tuple #[.agg (brush a (b + n) c (wt + m) sh), .int .i64 0]) (res_ct rfl rfl (by (go_simp <;> (intros; omega))) rfl) rfl ⟨rfl, by repeat' (first | with_reducible exact Below.refl _ _ | with_reducible assumption | with_reducible refine Below.drew ?_ | with_reducible refine Below.drewN ?_ _ | with_reducible refine Below.alloc ?_ ?_ _ | with_reducible refine Below.setCell ?_ ?_ _ | with_reducible refine Below.setRow ?_ ?_ _ | with_reducible refine below_step (by assumption) ?_ ?_ | (show (_ : Nat) ≤ _; first | omega | (simp <;> omega)))⟩
  · have hf2 : FitBrush a b (c + n) (wt + m) sh := ⟨by omega, by omega, by omega, by omega, h5⟩
    have E : dipV a b c wt sh 2 n m = if okBrush a b (c + n) (wt + m) sh = true then .tuple #[.agg (brush a b (c + n) (wt + m) sh), .int .i64 0] else .tuple #[.agg (brush 0 0 0 0 0), .int .i64 3] := by
      unfold dipV; rw [if_pos ho, if_pos ⟨hk, hn, hm⟩]; simp [dipD]
    cases hq : okBrush a b (c + n) (wt + m) sh
    · rw [E, if_neg (by simp [hq])]
      clear E
      go_enter Try.func34, Try.ntmps34
      go_wp2_with (first | (go_at_call 69; refine (l04Ok_any _ a b c wt sh _ hf ?_ ?_).mono ?_; (focus (go_simp <;> (intros; omega))); (focus (first | omega | (simp <;> omega))); rintro e w1 ⟨rfl, hb1⟩; have r1 := keep_rowA hb1; have f1 := keep_frA hb1; have s1 := hb1.size; try simp only [World.size_alloc, World.size_setCell, setRow_size, World.size_drew] at r1 f1 s1) | (go_at_call 69; refine (l04Ok_any _ a b (c + n) (wt + m) sh _ hf2 ?_ ?_).mono ?_; (focus (go_simp <;> (intros; omega))); (focus (first | omega | (simp <;> omega))); rintro e w1 ⟨rfl, hb1⟩; have r1 := keep_rowA hb1; have f1 := keep_frA hb1; have s1 := hb1.size; try simp only [World.size_alloc, World.size_setCell, setRow_size, World.size_drew] at r1 f1 s1) | (go_at_call 59; refine (l01Ink_any _ _).mono ?_; rintro e w1 ⟨rfl, rfl⟩) | (go_at_call 70; refine (l00In_any _ _ _ _).mono ?_; rintro e w1 ⟨rfl, rfl⟩))
      refine bodyPost_ret (v := .tuple #[.agg (brush 0 0 0 0 0), .int .i64 3]) (res_ct rfl rfl (by (go_simp <;> (intros; omega))) rfl) rfl ⟨rfl, by repeat' (first | with_reducible exact Below.refl _ _ | with_reducible assumption | with_reducible refine Below.drew ?_ | with_reducible refine Below.drewN ?_ _ | with_reducible refine Below.alloc ?_ ?_ _ | with_reducible refine Below.setCell ?_ ?_ _ | with_reducible refine Below.setRow ?_ ?_ _ | with_reducible refine below_step (by assumption) ?_ ?_ | (show (_ : Nat) ≤ _; first | omega | (simp <;> omega)))⟩
    · rw [E, if_pos hq]
      clear E
      go_enter Try.func34, Try.ntmps34
      go_wp2_with (first | (go_at_call 69; refine (l04Ok_any _ a b c wt sh _ hf ?_ ?_).mono ?_; (focus (go_simp <;> (intros; omega))); (focus (first | omega | (simp <;> omega))); rintro e w1 ⟨rfl, hb1⟩; have r1 := keep_rowA hb1; have f1 := keep_frA hb1; have s1 := hb1.size; try simp only [World.size_alloc, World.size_setCell, setRow_size, World.size_drew] at r1 f1 s1) | (go_at_call 69; refine (l04Ok_any _ a b (c + n) (wt + m) sh _ hf2 ?_ ?_).mono ?_; (focus (go_simp <;> (intros; omega))); (focus (first | omega | (simp <;> omega))); rintro e w1 ⟨rfl, hb1⟩; have r1 := keep_rowA hb1; have f1 := keep_frA hb1; have s1 := hb1.size; try simp only [World.size_alloc, World.size_setCell, setRow_size, World.size_drew] at r1 f1 s1) | (go_at_call 59; refine (l01Ink_any _ _).mono ?_; rintro e w1 ⟨rfl, rfl⟩) | (go_at_call 70; refine (l00In_any _ _ _ _).mono ?_; rintro e w1 ⟨rfl, rfl⟩))
      refine bodyPost_ret (v := .tuple #[.agg (brush a b (c + n) (wt + m) sh), .int .i64 0]) (res_ct rfl rfl (by (go_simp <;> (intros; omega))) rfl) rfl ⟨rfl, by repeat' (first | with_reducible exact Below.refl _ _ | with_reducible assumption | with_reducible refine Below.drew ?_ | with_reducible refine Below.drewN ?_ _ | with_reducible refine Below.alloc ?_ ?_ _ | with_reducible refine Below.setCell ?_ ?_ _ | with_reducible refine Below.setRow ?_ ?_ _ | with_reducible refine below_step (by assumption) ?_ ?_ | (show (_ : Nat) ≤ _; first | omega | (simp <;> omega)))⟩
end Go.Proofs.Ytjfbolelanmndaa
