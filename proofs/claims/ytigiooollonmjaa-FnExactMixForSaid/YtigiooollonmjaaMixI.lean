/- Mixtures: the walk of the program's search. -/
import Derived.Test.YtigiooollonmjaaMix
namespace Go.Proofs.Ytigiooollonmjaa
open Go.RowKit
set_option linter.unusedVariables false
set_option linter.unusedSimpArgs false
set_option maxRecDepth 100000
def part3 (a b c : Int) : Nat → Int
  | 0 => 0
  | 1 => a
  | 2 => a + b
  | _ => a + b + c
theorem sz_cases (n : Int) : (n < 0 ∧ sz n = -n) ∨ (0 ≤ n ∧ sz n = n) := by unfold sz; split <;> omega
theorem iMix_bad (x y z p : Int) (h : goodMix x y z p = false) (w : World) : Calls Try.prog 30 #[.agg #[.int .i64 x, .int .i64 y, .int .i64 z], .int .i64 p] w fun e w' => e = .returned (mixErr 2) ∧ Below w.heap.size w w' := by
  have H := Lib.hid h
  clear h
  go_enter Try.func30, Try.ntmps30
  go_wp2_with ((go_at_call 75; refine (within_any _ _ _ _).mono ?_; rintro e w1 ⟨rfl, rfl⟩))
  refine wp_loop_rounds 4 ?_; rw [rounds_succ]
  go_wp2_with (first | (rw [rounds_succ]) | (go_at_call 75; refine (within_any _ _ _ _).mono ?_; rintro e w1 ⟨rfl, rfl⟩))
  all_goals first
    | (refine bodyPost_ret (v := mixErr 2) (res_ctt rfl rfl (by go_simp) rfl rfl) rfl ⟨rfl, by repeat' (first | with_reducible exact Below.refl _ _ | with_reducible assumption | with_reducible refine Below.drew ?_ | with_reducible refine Below.drewN ?_ _ | with_reducible refine Below.alloc ?_ ?_ _ | with_reducible refine Below.setCell ?_ ?_ _ | with_reducible refine Below.setRow ?_ ?_ _ | with_reducible refine below_step (by assumption) ?_ ?_ | (show (_ : Nat) ≤ _; first | omega | (simp <;> omega)))⟩)
    | (exfalso; have h := H.out; simp_all [goodMix])
theorem iMix_zero (p : Int) (hp : 1 ≤ p ∧ p ≤ 30) (w : World) : Calls Try.prog 30 #[.agg #[.int .i64 0, .int .i64 0, .int .i64 0], .int .i64 p] w fun e w' => e = .returned (mixErr 4) ∧ Below w.heap.size w w' := by
  have ex : inB 0 0 1000 = true := by decide
  have ep : inB p 1 30 = true := inB_true.2 hp
  go_enter Try.func30, Try.ntmps30
  go_wp2_with ((go_at_call 75; refine (within_any _ _ _ _).mono ?_; rintro e w1 ⟨rfl, rfl⟩))
  refine wp_loop_rounds 4 ?_; rw [rounds_succ]
  go_wp2_with (first | (rw [rounds_succ]) | (go_at_call 75; refine (within_any _ _ _ _).mono ?_; rintro e w1 ⟨rfl, rfl⟩))
  exact bodyPost_ret (v := mixErr 4) (res_ctt rfl rfl (by (go_simp <;> (intros; omega))) rfl rfl) rfl ⟨rfl, by repeat' (first | with_reducible exact Below.refl _ _ | with_reducible assumption | with_reducible refine Below.drew ?_ | with_reducible refine Below.drewN ?_ _ | with_reducible refine Below.alloc ?_ ?_ _ | with_reducible refine Below.setCell ?_ ?_ _ | with_reducible refine Below.setRow ?_ ?_ _ | with_reducible refine below_step (by assumption) ?_ ?_ | (show (_ : Nat) ≤ _; first | omega | (simp <;> omega)))⟩
set_option maxHeartbeats 4000000 in
theorem iMix_good (x y z p : Int) (hx : 0 ≤ x ∧ x ≤ 1000) (hy : 0 ≤ y ∧ y ≤ 1000) (hz : 0 ≤ z ∧ z ≤ 1000) (hp : 1 ≤ p ∧ p ≤ 30) (h0 : ¬ x + y + z = 0) (w : World) : Calls Try.prog 30 #[.agg #[.int .i64 x, .int .i64 y, .int .i64 z], .int .i64 p] w fun e w' => e = .returned (mixOk (allM x y z (x + y + z) p (p + 1).toNat)) ∧ Below w.heap.size w w' := by
  have ⟨x1, x2⟩ := hx
  have ⟨y1, y2⟩ := hy
  have ⟨z1, z2⟩ := hz
  have ⟨p1, p2⟩ := hp
  have ex : inB x 0 1000 = true := inB_true.2 hx
  have ey : inB y 0 1000 = true := inB_true.2 hy
  have ez : inB z 0 1000 = true := inB_true.2 hz
  have ep : inB p 1 30 = true := inB_true.2 hp
  have e0 : (x + y + z == 0) = false := by simpa using h0
  go_enter Try.func30, Try.ntmps30
  go_wp2_with ((go_at_call 75; refine (within_any _ _ _ _).mono ?_; rintro e w1 ⟨rfl, rfl⟩))
  refine wp_loop_rounds 4 ?_; rw [rounds_succ]
  go_wp2_with (first | (rw [rounds_succ]) | (go_at_call 75; refine (within_any _ _ _ _).mono ?_; rintro e w1 ⟨rfl, rfl⟩))
  go_loopw [11, 43] (fun l a wr => RelA x y z p w l a wr) (fun l a wr => 100 - (intOf a).toNat)
  case atStart => exact ⟨0, by omega, rfl, rfl, ⟨by show (-1 : Int) ≤ -1; omega, by show (-1 : Int) ≤ 400000; omega⟩, by repeat' (first | with_reducible exact Below.refl _ _ | with_reducible assumption | with_reducible refine Below.drew ?_ | with_reducible refine Below.drewN ?_ _ | with_reducible refine Below.alloc ?_ ?_ _ | with_reducible refine Below.setCell ?_ ?_ _ | with_reducible refine Below.setRow ?_ ?_ _ | with_reducible refine below_step (by assumption) ?_ ?_ | (show (_ : Nat) ≤ _; first | omega | (simp <;> omega))), by simp, by (go_simp <;> (intros; omega)), by (go_simp <;> (intros; omega)), by (go_simp <;> (intros; omega)), by (go_simp <;> (intros; omega)), by go_simp; exact ⟨rfl, rfl, rfl⟩⟩
  case round =>
    obtain ⟨k, hk, rfl, rfl, hsm, hb, hsz, hr0, hr1, hf1, hf2, hr2⟩ := hrel
    obtain ⟨wo, rfl⟩ : ∃ wo : World, wo = wr := ⟨_, rfl⟩
    by_cases hlt : (k : Int) < p + 1
    · have hdk : decide ((k : Int) < p + 1) = true := decide_eq_true hlt
      have HS := Lib.hid hsm
      clear hsm
      go_wp2
      go_loopw [11, 50] (fun l b wr => RelB x y z p k w l b wr) (fun l b wr => 100 - (intOf b).toNat)
      case atStart => exact ⟨0, by omega, rfl, rfl, HS.out, by repeat' (first | with_reducible exact Below.refl _ _ | with_reducible assumption | with_reducible refine Below.drew ?_ | with_reducible refine Below.drewN ?_ _ | with_reducible refine Below.alloc ?_ ?_ _ | with_reducible refine Below.setCell ?_ ?_ _ | with_reducible refine Below.setRow ?_ ?_ _ | with_reducible refine below_step (by assumption) ?_ ?_ | (show (_ : Nat) ≤ _; first | omega | (simp <;> omega))), (by first | omega | (simp <;> omega)), by (go_simp <;> (intros; omega)), by (go_simp <;> (intros; omega)), by (go_simp <;> (intros; omega)), by (go_simp <;> (intros; omega)), by simp only [show ∀ s, rowM x y z (x + y + z) p k s 0 = s from fun _ => rfl]; (go_simp <;> (intros; omega))⟩
      case round =>
        obtain ⟨j, hj, rfl, rfl, hsm2, hb2, hsz2, hr0, hr1, hf1, hf2, hr2⟩ := hrel
        obtain ⟨wi, rfl⟩ : ∃ wi : World, wi = wr := ⟨_, rfl⟩
        obtain ⟨st, hst⟩ : ∃ st, st = rowM x y z (x + y + z) p k (allM x y z (x + y + z) p k) j := ⟨_, rfl⟩
        rw [← hst] at hsm2 hr2 ⊢
        by_cases hlj : (j : Int) < p - k + 1
        · have hdj : decide ((j : Int) < p - k + 1) = true := decide_eq_true hlj
          have hlj2 : (k : Int) + j ≤ p := by omega
          have m1 := mul_bd (a := k) (A := 30) (b := x + y + z) (B := 3000) (by omega) (by omega)
          have m2 := mul_bd (a := j) (A := 30) (b := x + y + z) (B := 3000) (by omega) (by omega)
          have m3 := mul_bd (a := p - k - j) (A := 30) (b := x + y + z) (B := 3000) (by omega) (by omega)
          have n1 := mul_bd hx (b := p) (B := 30) (by omega)
          have n2 := mul_bd hy (b := p) (B := 30) (by omega)
          have n3 := mul_bd hz (b := p) (B := 30) (by omega)
          have q1 := sz_le (n := k * (x + y + z) - x * p) (b := 90000) (by omega)
          have q2 := sz_le (n := j * (x + y + z) - y * p) (b := 90000) (by omega)
          have q3 := sz_le (n := (p - k - j) * (x + y + z) - z * p) (b := 90000) (by omega)
          have c1 := sz_cases (k * (x + y + z) - x * p)
          have c2 := sz_cases (j * (x + y + z) - y * p)
          have c3 := sz_cases ((p - k - j) * (x + y + z) - z * p)
          have HST := Lib.hid hst
          have HSM := Lib.hid hsm2
          have ⟨sm1, sm2⟩ := hsm2
          clear hst hsm2
          have HOF := Lib.hid (show offM x y z (x + y + z) p k j = sz (k * (x + y + z) - x * p) + sz (j * (x + y + z) - y * p) + sz ((p - k - j) * (x + y + z) - z * p) from rfl)
          generalize hs1 : sz (k * (x + y + z) - x * p) = s1 at q1 HOF c1
          generalize hs2 : sz (j * (x + y + z) - y * p) = s2 at q2 HOF c2
          generalize hs3 : sz ((p - k - j) * (x + y + z) - z * p) = s3 at q3 HOF c3
          clear hs1 hs2 hs3
          have HC := Lib.hid (And.intro c1 (And.intro c2 c3))
          clear c1 c2 c3
          go_wp2
          go_loopw [62, 15] (fun i s wx => ∃ m : Nat, m ≤ 3 ∧ i = .int .i64 m ∧ s = .int .i64 (part3 s1 s2 s3 m) ∧ Below wi.heap.size wi wx ∧ wi.heap.size + 1 ≤ wx.heap.size ∧ rowOf wx wi.heap.size = #[.int .i64 k, .int .i64 j, .int .i64 (p - k - j)]) (fun i s wx => 4 - (intOf i).toNat)
          case atStart => exact ⟨0, by omega, rfl, rfl, by repeat' (first | with_reducible exact Below.refl _ _ | with_reducible assumption | with_reducible refine Below.drew ?_ | with_reducible refine Below.drewN ?_ _ | with_reducible refine Below.alloc ?_ ?_ _ | with_reducible refine Below.setCell ?_ ?_ _ | with_reducible refine Below.setRow ?_ ?_ _ | with_reducible refine below_step (by assumption) ?_ ?_ | (show (_ : Nat) ≤ _; first | omega | (simp <;> omega))), by simp, by (go_simp <;> (intros; omega))⟩
          case round =>
            obtain ⟨m, hm, rfl, rfl, hb3, hsz3, hr3⟩ := hrel
            have hr0x := (keep_row hb3 (show w.heap.size < wi.heap.size by omega)).trans hr0
            have hr1x := (keep_row hb3 (show w.heap.size + 1 < wi.heap.size by omega)).trans hr1
            have hr2x := (keep_row hb3 (show w.heap.size + 1 + 1 < wi.heap.size by omega)).trans hr2
            have hf1x := (keep_fr hb3 (show w.heap.size + 1 < wi.heap.size by omega)).trans hf1
            have hf2x := (keep_fr hb3 (show w.heap.size + 1 + 1 < wi.heap.size by omega)).trans hf2
            rcases (show m = 0 ∨ m = 1 ∨ m = 2 ∨ m = 3 by omega) with rfl | rfl | rfl | rfl
            · have hps : part3 s1 s2 s3 0 = 0 := rfl
              rw [hps]
              clear hps
              go_wp2
              all_goals
                go_roundw
                case rel => first | exact ⟨1, by omega, by go_num, by obtain ⟨c1, c2, c3⟩ := HC.out; simp only [part3]; congr 1; omega, by repeat' (first | with_reducible exact Below.refl _ _ | with_reducible assumption | with_reducible refine Below.drew ?_ | with_reducible refine Below.drewN ?_ _ | with_reducible refine Below.alloc ?_ ?_ _ | with_reducible refine Below.setCell ?_ ?_ _ | with_reducible refine Below.setRow ?_ ?_ _ | with_reducible refine below_step (by assumption) ?_ ?_ | (show (_ : Nat) ≤ _; first | omega | (simp <;> omega))), (by first | omega | (simp <;> omega)), by (go_simp <;> (intros; omega))⟩ | ((repeat (with_reducible apply Exists.intro)); refine And.intro ?_ ?_; rotate_left; focus ((repeat' (with_reducible apply And.intro)) <;> rfl); exact ⟨1, by omega, by go_num, by obtain ⟨c1, c2, c3⟩ := HC.out; simp only [part3]; congr 1; omega, by repeat' (first | with_reducible exact Below.refl _ _ | with_reducible assumption | with_reducible refine Below.drew ?_ | with_reducible refine Below.drewN ?_ _ | with_reducible refine Below.alloc ?_ ?_ _ | with_reducible refine Below.setCell ?_ ?_ _ | with_reducible refine Below.setRow ?_ ?_ _ | with_reducible refine below_step (by assumption) ?_ ?_ | (show (_ : Nat) ≤ _; first | omega | (simp <;> omega))), (by first | omega | (simp <;> omega)), by (go_simp <;> (intros; omega))⟩)
                case measure => simp [intOf]
            · have hps : part3 s1 s2 s3 1 = s1 := rfl
              rw [hps]
              clear hps
              go_wp2
              all_goals
                go_roundw
                case rel => first | exact ⟨2, by omega, by go_num, by obtain ⟨c1, c2, c3⟩ := HC.out; simp only [part3]; congr 1; omega, by repeat' (first | with_reducible exact Below.refl _ _ | with_reducible assumption | with_reducible refine Below.drew ?_ | with_reducible refine Below.drewN ?_ _ | with_reducible refine Below.alloc ?_ ?_ _ | with_reducible refine Below.setCell ?_ ?_ _ | with_reducible refine Below.setRow ?_ ?_ _ | with_reducible refine below_step (by assumption) ?_ ?_ | (show (_ : Nat) ≤ _; first | omega | (simp <;> omega))), (by first | omega | (simp <;> omega)), by (go_simp <;> (intros; omega))⟩ | ((repeat (with_reducible apply Exists.intro)); refine And.intro ?_ ?_; rotate_left; focus ((repeat' (with_reducible apply And.intro)) <;> rfl); exact ⟨2, by omega, by go_num, by obtain ⟨c1, c2, c3⟩ := HC.out; simp only [part3]; congr 1; omega, by repeat' (first | with_reducible exact Below.refl _ _ | with_reducible assumption | with_reducible refine Below.drew ?_ | with_reducible refine Below.drewN ?_ _ | with_reducible refine Below.alloc ?_ ?_ _ | with_reducible refine Below.setCell ?_ ?_ _ | with_reducible refine Below.setRow ?_ ?_ _ | with_reducible refine below_step (by assumption) ?_ ?_ | (show (_ : Nat) ≤ _; first | omega | (simp <;> omega))), (by first | omega | (simp <;> omega)), by (go_simp <;> (intros; omega))⟩)
                case measure => simp [intOf]
            · have hps : part3 s1 s2 s3 2 = s1 + s2 := rfl
              rw [hps]
              clear hps
              go_wp2
              all_goals
                go_roundw
                case rel => first | exact ⟨3, by omega, by go_num, by obtain ⟨c1, c2, c3⟩ := HC.out; simp only [part3]; congr 1; omega, by repeat' (first | with_reducible exact Below.refl _ _ | with_reducible assumption | with_reducible refine Below.drew ?_ | with_reducible refine Below.drewN ?_ _ | with_reducible refine Below.alloc ?_ ?_ _ | with_reducible refine Below.setCell ?_ ?_ _ | with_reducible refine Below.setRow ?_ ?_ _ | with_reducible refine below_step (by assumption) ?_ ?_ | (show (_ : Nat) ≤ _; first | omega | (simp <;> omega))), (by first | omega | (simp <;> omega)), by (go_simp <;> (intros; omega))⟩ | ((repeat (with_reducible apply Exists.intro)); refine And.intro ?_ ?_; rotate_left; focus ((repeat' (with_reducible apply And.intro)) <;> rfl); exact ⟨3, by omega, by go_num, by obtain ⟨c1, c2, c3⟩ := HC.out; simp only [part3]; congr 1; omega, by repeat' (first | with_reducible exact Below.refl _ _ | with_reducible assumption | with_reducible refine Below.drew ?_ | with_reducible refine Below.drewN ?_ _ | with_reducible refine Below.alloc ?_ ?_ _ | with_reducible refine Below.setCell ?_ ?_ _ | with_reducible refine Below.setRow ?_ ?_ _ | with_reducible refine below_step (by assumption) ?_ ?_ | (show (_ : Nat) ≤ _; first | omega | (simp <;> omega))), (by first | omega | (simp <;> omega)), by (go_simp <;> (intros; omega))⟩)
                case measure => simp [intOf]
            · have hps : part3 s1 s2 s3 3 = s1 + s2 + s3 := rfl
              rw [hps]
              clear hps HC
              by_cases hc1 : st.off < 0
              · have hd1 : decide (st.off < 0) = true := decide_eq_true hc1
                have HR := Lib.hid (show rowM x y z (x + y + z) p k (allM x y z (x + y + z) p k) (j + 1) = ⟨(k : Int), (j : Int), p - k - j, s1 + s2 + s3⟩ by
                  show stepM x y z (x + y + z) p (rowM x y z (x + y + z) p k (allM x y z (x + y + z) p k) j) k j = _
                  rw [← HST.out]; unfold stepM; rw [if_pos (by exact .inl hc1)]; rw [HOF.out])
                generalize hso : st.off = so at *
                generalize hsa : st.a = sa at *
                generalize hsb : st.b = sb at *
                generalize hsc : st.c = sc at *
                have HE := Lib.hid (And.intro (And.intro hso hsa) (And.intro hsb hsc))
                clear hso hsa hsb hsc
                go_wp2
                go_roundw
                case rel => first | exact ⟨j + 1, by omega, by go_num, by rw [HR.out], by rw [HR.out]; exact ⟨by show (-1 : Int) ≤ s1 + s2 + s3; omega, by show s1 + s2 + s3 ≤ 400000; omega⟩, by repeat' (first | with_reducible exact Below.refl _ _ | with_reducible assumption | with_reducible refine Below.drew ?_ | with_reducible refine Below.drewN ?_ _ | with_reducible refine Below.alloc ?_ ?_ _ | with_reducible refine Below.setCell ?_ ?_ _ | with_reducible refine Below.setRow ?_ ?_ _ | with_reducible refine below_step (by assumption) ?_ ?_ | (show (_ : Nat) ≤ _; first | omega | (simp <;> omega))), (by first | omega | (simp <;> omega)), by (go_simp <;> (intros; omega)), by (go_simp <;> (intros; omega)), by (go_simp <;> (intros; omega)), by (go_simp <;> (intros; omega)), by rw [HR.out]; (go_simp <;> (intros; omega))⟩ | ((repeat (with_reducible apply Exists.intro)); refine And.intro ?_ ?_; rotate_left; focus ((repeat' (with_reducible apply And.intro)) <;> rfl); exact ⟨j + 1, by omega, by go_num, by rw [HR.out], by rw [HR.out]; exact ⟨by show (-1 : Int) ≤ s1 + s2 + s3; omega, by show s1 + s2 + s3 ≤ 400000; omega⟩, by repeat' (first | with_reducible exact Below.refl _ _ | with_reducible assumption | with_reducible refine Below.drew ?_ | with_reducible refine Below.drewN ?_ _ | with_reducible refine Below.alloc ?_ ?_ _ | with_reducible refine Below.setCell ?_ ?_ _ | with_reducible refine Below.setRow ?_ ?_ _ | with_reducible refine below_step (by assumption) ?_ ?_ | (show (_ : Nat) ≤ _; first | omega | (simp <;> omega))), (by first | omega | (simp <;> omega)), by (go_simp <;> (intros; omega)), by (go_simp <;> (intros; omega)), by (go_simp <;> (intros; omega)), by (go_simp <;> (intros; omega)), by rw [HR.out]; (go_simp <;> (intros; omega))⟩)
                case measure => simp [intOf]; omega
              by_cases hc2 : s1 + s2 + s3 < st.off
              · have hd1 : decide (st.off < 0) = false := decide_eq_false hc1
                have hd2 : decide (s1 + s2 + s3 < st.off) = true := decide_eq_true hc2
                have HR := Lib.hid (show rowM x y z (x + y + z) p k (allM x y z (x + y + z) p k) (j + 1) = ⟨(k : Int), (j : Int), p - k - j, s1 + s2 + s3⟩ by
                  show stepM x y z (x + y + z) p (rowM x y z (x + y + z) p k (allM x y z (x + y + z) p k) j) k j = _
                  rw [← HST.out]; unfold stepM; rw [if_pos (by exact .inr (by rw [HOF.out]; exact hc2))]; rw [HOF.out])
                generalize hso : st.off = so at *
                generalize hsa : st.a = sa at *
                generalize hsb : st.b = sb at *
                generalize hsc : st.c = sc at *
                have HE := Lib.hid (And.intro (And.intro hso hsa) (And.intro hsb hsc))
                clear hso hsa hsb hsc
                go_wp2
                go_roundw
                case rel => first | exact ⟨j + 1, by omega, by go_num, by rw [HR.out], by rw [HR.out]; exact ⟨by show (-1 : Int) ≤ s1 + s2 + s3; omega, by show s1 + s2 + s3 ≤ 400000; omega⟩, by repeat' (first | with_reducible exact Below.refl _ _ | with_reducible assumption | with_reducible refine Below.drew ?_ | with_reducible refine Below.drewN ?_ _ | with_reducible refine Below.alloc ?_ ?_ _ | with_reducible refine Below.setCell ?_ ?_ _ | with_reducible refine Below.setRow ?_ ?_ _ | with_reducible refine below_step (by assumption) ?_ ?_ | (show (_ : Nat) ≤ _; first | omega | (simp <;> omega))), (by first | omega | (simp <;> omega)), by (go_simp <;> (intros; omega)), by (go_simp <;> (intros; omega)), by (go_simp <;> (intros; omega)), by (go_simp <;> (intros; omega)), by rw [HR.out]; (go_simp <;> (intros; omega))⟩ | ((repeat (with_reducible apply Exists.intro)); refine And.intro ?_ ?_; rotate_left; focus ((repeat' (with_reducible apply And.intro)) <;> rfl); exact ⟨j + 1, by omega, by go_num, by rw [HR.out], by rw [HR.out]; exact ⟨by show (-1 : Int) ≤ s1 + s2 + s3; omega, by show s1 + s2 + s3 ≤ 400000; omega⟩, by repeat' (first | with_reducible exact Below.refl _ _ | with_reducible assumption | with_reducible refine Below.drew ?_ | with_reducible refine Below.drewN ?_ _ | with_reducible refine Below.alloc ?_ ?_ _ | with_reducible refine Below.setCell ?_ ?_ _ | with_reducible refine Below.setRow ?_ ?_ _ | with_reducible refine below_step (by assumption) ?_ ?_ | (show (_ : Nat) ≤ _; first | omega | (simp <;> omega))), (by first | omega | (simp <;> omega)), by (go_simp <;> (intros; omega)), by (go_simp <;> (intros; omega)), by (go_simp <;> (intros; omega)), by (go_simp <;> (intros; omega)), by rw [HR.out]; (go_simp <;> (intros; omega))⟩)
                case measure => simp [intOf]; omega
              · have hd1 : decide (st.off < 0) = false := decide_eq_false hc1
                have hd2 : decide (s1 + s2 + s3 < st.off) = false := decide_eq_false hc2
                have HR := Lib.hid (show rowM x y z (x + y + z) p k (allM x y z (x + y + z) p k) (j + 1) = st by
                  show stepM x y z (x + y + z) p (rowM x y z (x + y + z) p k (allM x y z (x + y + z) p k) j) k j = _
                  rw [← HST.out]; unfold stepM; rw [if_neg (by rw [HOF.out]; omega)])
                generalize hso : st.off = so at *
                generalize hsa : st.a = sa at *
                generalize hsb : st.b = sb at *
                generalize hsc : st.c = sc at *
                have HE := Lib.hid (And.intro (And.intro hso hsa) (And.intro hsb hsc))
                clear hso hsa hsb hsc
                go_wp2
                go_roundw
                case rel => first | exact ⟨j + 1, by omega, by go_num, by rw [HR.out, HE.out.1.1], by rw [HR.out]; exact HSM.out, by repeat' (first | with_reducible exact Below.refl _ _ | with_reducible assumption | with_reducible refine Below.drew ?_ | with_reducible refine Below.drewN ?_ _ | with_reducible refine Below.alloc ?_ ?_ _ | with_reducible refine Below.setCell ?_ ?_ _ | with_reducible refine Below.setRow ?_ ?_ _ | with_reducible refine below_step (by assumption) ?_ ?_ | (show (_ : Nat) ≤ _; first | omega | (simp <;> omega))), (by first | omega | (simp <;> omega)), by (go_simp <;> (intros; omega)), by (go_simp <;> (intros; omega)), by (go_simp <;> (intros; omega)), by (go_simp <;> (intros; omega)), by rw [HR.out, HE.out.1.2, HE.out.2.1, HE.out.2.2]; (go_simp <;> (intros; omega))⟩ | ((repeat (with_reducible apply Exists.intro)); refine And.intro ?_ ?_; rotate_left; focus ((repeat' (with_reducible apply And.intro)) <;> rfl); exact ⟨j + 1, by omega, by go_num, by rw [HR.out, HE.out.1.1], by rw [HR.out]; exact HSM.out, by repeat' (first | with_reducible exact Below.refl _ _ | with_reducible assumption | with_reducible refine Below.drew ?_ | with_reducible refine Below.drewN ?_ _ | with_reducible refine Below.alloc ?_ ?_ _ | with_reducible refine Below.setCell ?_ ?_ _ | with_reducible refine Below.setRow ?_ ?_ _ | with_reducible refine below_step (by assumption) ?_ ?_ | (show (_ : Nat) ≤ _; first | omega | (simp <;> omega))), (by first | omega | (simp <;> omega)), by (go_simp <;> (intros; omega)), by (go_simp <;> (intros; omega)), by (go_simp <;> (intros; omega)), by (go_simp <;> (intros; omega)), by rw [HR.out, HE.out.1.2, HE.out.2.1, HE.out.2.2]; (go_simp <;> (intros; omega))⟩)
                case measure => simp [intOf]; omega
        · have hje : (j : Int) = p + 1 - k := by omega
          have hdj : decide ((j : Int) < p - k + 1) = false := decide_eq_false hlj
          have HR := Lib.hid (show allM x y z (x + y + z) p (k + 1) = st by
            rw [hst]; show rowM x y z (x + y + z) p k (allM x y z (x + y + z) p k) (p + 1 - k).toNat = _; rw [show (p + 1 - k).toNat = j by omega])
          have HSM := Lib.hid hsm2
          clear hsm2 hst
          generalize hso : st.off = so at *
          generalize hsa : st.a = sa at *
          generalize hsb : st.b = sb at *
          generalize hsc : st.c = sc at *
          have HE := Lib.hid (And.intro (And.intro hso hsa) (And.intro hsb hsc))
          clear hso hsa hsb hsc
          go_wp2
          go_roundw
          case rel => first | exact ⟨k + 1, by omega, by go_num, by rw [HR.out, HE.out.1.1], by rw [HR.out]; exact HSM.out, by repeat' (first | with_reducible exact Below.refl _ _ | with_reducible assumption | with_reducible refine Below.drew ?_ | with_reducible refine Below.drewN ?_ _ | with_reducible refine Below.alloc ?_ ?_ _ | with_reducible refine Below.setCell ?_ ?_ _ | with_reducible refine Below.setRow ?_ ?_ _ | with_reducible refine below_step (by assumption) ?_ ?_ | (show (_ : Nat) ≤ _; first | omega | (simp <;> omega))), (by first | omega | (simp <;> omega)), by (go_simp <;> (intros; omega)), by (go_simp <;> (intros; omega)), by (go_simp <;> (intros; omega)), by (go_simp <;> (intros; omega)), by rw [HR.out, HE.out.1.2, HE.out.2.1, HE.out.2.2]; (go_simp <;> (intros; omega))⟩ | ((repeat (with_reducible apply Exists.intro)); refine And.intro ?_ ?_; rotate_left; focus ((repeat' (with_reducible apply And.intro)) <;> rfl); exact ⟨k + 1, by omega, by go_num, by rw [HR.out, HE.out.1.1], by rw [HR.out]; exact HSM.out, by repeat' (first | with_reducible exact Below.refl _ _ | with_reducible assumption | with_reducible refine Below.drew ?_ | with_reducible refine Below.drewN ?_ _ | with_reducible refine Below.alloc ?_ ?_ _ | with_reducible refine Below.setCell ?_ ?_ _ | with_reducible refine Below.setRow ?_ ?_ _ | with_reducible refine below_step (by assumption) ?_ ?_ | (show (_ : Nat) ≤ _; first | omega | (simp <;> omega))), (by first | omega | (simp <;> omega)), by (go_simp <;> (intros; omega)), by (go_simp <;> (intros; omega)), by (go_simp <;> (intros; omega)), by (go_simp <;> (intros; omega)), by rw [HR.out, HE.out.1.2, HE.out.2.1, HE.out.2.2]; (go_simp <;> (intros; omega))⟩)
          case measure => simp [intOf]; omega
    · have hke : (p + 1).toNat = k := by omega
      have hdk : decide ((k : Int) < p + 1) = false := decide_eq_false hlt
      have HK := Lib.hid hke
      clear hke hsm
      go_wp2
      rw [HK.out]
      exact bodyPost_ret (v := mixOk (allM x y z (x + y + z) p k)) (res_ctt rfl rfl (by (go_simp <;> (intros; omega))) rfl rfl) rfl ⟨rfl, by repeat' (first | with_reducible exact Below.refl _ _ | with_reducible assumption | with_reducible refine Below.drew ?_ | with_reducible refine Below.drewN ?_ _ | with_reducible refine Below.alloc ?_ ?_ _ | with_reducible refine Below.setCell ?_ ?_ _ | with_reducible refine Below.setRow ?_ ?_ _ | with_reducible refine below_step (by assumption) ?_ ?_ | (show (_ : Nat) ≤ _; first | omega | (simp <;> omega)))⟩
end Go.Proofs.Ytigiooollonmjaa
