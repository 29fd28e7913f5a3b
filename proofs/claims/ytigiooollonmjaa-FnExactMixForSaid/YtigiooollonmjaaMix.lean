/- Mixtures: the walks of the reference's and of the program's search. -/
import Derived.Test.YtigiooollonmjaaMixPure
import Derived.Test.YtigiooollonmjaaEq
import Derived.Lib.Hide
namespace Go.Proofs.Ytigiooollonmjaa
open Go.RowKit
set_option linter.unusedVariables false
set_option linter.unusedSimpArgs false
set_option maxRecDepth 100000
def mixErr (k : Int) : Value := .tuple #[.agg #[.int .i64 0, .int .i64 0, .int .i64 0], .int .i64 0, .int .i64 k]
def mixOk (s : St) : Value := .tuple #[.agg #[.int .i64 s.a, .int .i64 s.b, .int .i64 s.c], .int .i64 s.off, .int .i64 0]
def goodMix (x y z p : Int) : Bool := inB p 1 30 && inB x 0 1000 && inB y 0 1000 && inB z 0 1000
theorem l00Max_q (a b : Int) (w : World) : Calls Try.prog 96 #[.int .i64 a, .int .i64 b] w fun e w' => e = .returned (.int .i64 (if b < a then a else b)) ∧ w' = w := by
  by_cases h : b < a
  all_goals
    go_enter Try.func96, Try.ntmps96
    go_wp2
    go_ret
    exact ⟨by simp [h], rfl⟩
theorem l01Size_q (n : Int) (h : -1000000000 ≤ n ∧ n ≤ 1000000000) (w : World) : Calls Try.prog 83 #[.int .i64 n] w fun e w' => e = .returned (.int .i64 (sz n)) ∧ w' = w := by
  have ⟨h1, h2⟩ := h
  have E : sz n = if -n < n then n else -n := by unfold sz; split <;> split <;> omega
  rw [E]
  clear E
  go_enter Try.func83, Try.ntmps83
  go_wp2_with (go_at_call 96; refine (l00Max_q _ _ _).mono ?_; rintro e w1 ⟨rfl, rfl⟩)
  all_goals
    go_ret
    first | exact ⟨rfl, rfl⟩ | exact ⟨by simp <;> omega, rfl⟩
theorem sMix_bad (x y z p : Int) (h : goodMix x y z p = false) (w : World) : Calls Try.prog 28 #[.agg #[.int .i64 x, .int .i64 y, .int .i64 z], .int .i64 p] w fun e w' => e = .returned (mixErr 2) ∧ Below w.heap.size w w' := by
  have H := Lib.hid h
  clear h
  go_enter Try.func28, Try.ntmps28
  go_wp2_with ((go_at_call 67; refine (l00In_any _ _ _ _).mono ?_; rintro e w1 ⟨rfl, rfl⟩))
  refine wp_loop_rounds 4 ?_; rw [rounds_succ]
  go_wp2_with (first | (rw [rounds_succ]) | (go_at_call 67; refine (l00In_any _ _ _ _).mono ?_; rintro e w1 ⟨rfl, rfl⟩))
  all_goals first
    | (refine bodyPost_ret (v := mixErr 2) (res_ctt rfl rfl (by go_simp) rfl rfl) rfl ⟨rfl, by repeat' (first | with_reducible exact Below.refl _ _ | with_reducible assumption | with_reducible refine Below.drew ?_ | with_reducible refine Below.drewN ?_ _ | with_reducible refine Below.alloc ?_ ?_ _ | with_reducible refine Below.setCell ?_ ?_ _ | with_reducible refine Below.setRow ?_ ?_ _ | with_reducible refine below_step (by assumption) ?_ ?_ | (show (_ : Nat) ≤ _; first | omega | (simp <;> omega)))⟩)
    | (exfalso; have h := H.out; simp_all [goodMix])
def RelA (x y z p : Int) (w : World) (l a : Value) (wr : World) : Prop := ∃ k : Nat, (k : Int) ≤ p + 1 ∧ a = .int .i64 k ∧ l = .int .i64 (allM x y z (x + y + z) p k).off ∧ SmallSt (allM x y z (x + y + z) p k) ∧ Below w.heap.size w wr ∧ w.heap.size + 3 ≤ wr.heap.size ∧
  rowOf wr w.heap.size = #[.int .i64 x, .int .i64 y, .int .i64 z] ∧ rowOf wr (w.heap.size + 1) = #[.int .i64 0, .int .i64 0, .int .i64 0] ∧ frOf wr (w.heap.size + 1) = (0, 0) ∧ frOf wr (w.heap.size + 1 + 1) = (0, 0) ∧
  rowOf wr (w.heap.size + 1 + 1) = #[.int .i64 (allM x y z (x + y + z) p k).a, .int .i64 (allM x y z (x + y + z) p k).b, .int .i64 (allM x y z (x + y + z) p k).c]
def RelB (x y z p : Int) (k : Nat) (w : World) (l b : Value) (wr : World) : Prop := ∃ j : Nat, (k : Int) + j ≤ p + 1 ∧ b = .int .i64 j ∧ l = .int .i64 (rowM x y z (x + y + z) p k (allM x y z (x + y + z) p k) j).off ∧ SmallSt (rowM x y z (x + y + z) p k (allM x y z (x + y + z) p k) j) ∧ Below w.heap.size w wr ∧ w.heap.size + 3 ≤ wr.heap.size ∧
  rowOf wr w.heap.size = #[.int .i64 x, .int .i64 y, .int .i64 z] ∧ rowOf wr (w.heap.size + 1) = #[.int .i64 0, .int .i64 0, .int .i64 0] ∧ frOf wr (w.heap.size + 1) = (0, 0) ∧ frOf wr (w.heap.size + 1 + 1) = (0, 0) ∧
  rowOf wr (w.heap.size + 1 + 1) = #[.int .i64 (rowM x y z (x + y + z) p k (allM x y z (x + y + z) p k) j).a, .int .i64 (rowM x y z (x + y + z) p k (allM x y z (x + y + z) p k) j).b, .int .i64 (rowM x y z (x + y + z) p k (allM x y z (x + y + z) p k) j).c]
set_option maxHeartbeats 2000000 in
theorem sMix_good (x y z p : Int) (hx : 0 ≤ x ∧ x ≤ 1000) (hy : 0 ≤ y ∧ y ≤ 1000) (hz : 0 ≤ z ∧ z ≤ 1000) (hp : 1 ≤ p ∧ p ≤ 30) (h0 : ¬ x + y + z = 0) (w : World) : Calls Try.prog 28 #[.agg #[.int .i64 x, .int .i64 y, .int .i64 z], .int .i64 p] w fun e w' => e = .returned (mixOk (allM x y z (x + y + z) p (p + 1).toNat)) ∧ Below w.heap.size w w' := by
  have ⟨x1, x2⟩ := hx
  have ⟨y1, y2⟩ := hy
  have ⟨z1, z2⟩ := hz
  have ⟨p1, p2⟩ := hp
  have ex : inB x 0 1000 = true := inB_true.2 hx
  have ey : inB y 0 1000 = true := inB_true.2 hy
  have ez : inB z 0 1000 = true := inB_true.2 hz
  have ep : inB p 1 30 = true := inB_true.2 hp
  have e0 : (x + y + z == 0) = false := by simpa using h0
  go_enter Try.func28, Try.ntmps28
  go_wp2_with ((go_at_call 67; refine (l00In_any _ _ _ _).mono ?_; rintro e w1 ⟨rfl, rfl⟩))
  refine wp_loop_rounds 4 ?_; rw [rounds_succ]
  go_wp2_with (first | (rw [rounds_succ]) | (go_at_call 67; refine (l00In_any _ _ _ _).mono ?_; rintro e w1 ⟨rfl, rfl⟩))
  go_loopw [11, 12] (fun l a wr => RelA x y z p w l a wr) (fun l a wr => 100 - (intOf a).toNat)
  case atStart => exact ⟨0, by omega, rfl, rfl, ⟨by show (-1 : Int) ≤ -1; omega, by show (-1 : Int) ≤ 400000; omega⟩, by repeat' (first | with_reducible exact Below.refl _ _ | with_reducible assumption | with_reducible refine Below.drew ?_ | with_reducible refine Below.drewN ?_ _ | with_reducible refine Below.alloc ?_ ?_ _ | with_reducible refine Below.setCell ?_ ?_ _ | with_reducible refine Below.setRow ?_ ?_ _ | with_reducible refine below_step (by assumption) ?_ ?_ | (show (_ : Nat) ≤ _; first | omega | (simp <;> omega))), by simp, by (go_simp <;> (intros; omega)), by (go_simp <;> (intros; omega)), by (go_simp <;> (intros; omega)), by (go_simp <;> (intros; omega)), by go_simp; exact ⟨rfl, rfl, rfl⟩⟩
  case round =>
    obtain ⟨k, hk, rfl, rfl, hsm, hb, hsz, hr0, hr1, hf1, hf2, hr2⟩ := hrel
    obtain ⟨wo, rfl⟩ : ∃ wo : World, wo = wr := ⟨_, rfl⟩
    by_cases hlt : (k : Int) ≤ p
    · have hdk : decide ((k : Int) ≤ p) = true := decide_eq_true hlt
      have HS := Lib.hid hsm
      clear hsm
      go_wp2
      go_loopw [11, 13] (fun l b wr => RelB x y z p k w l b wr) (fun l b wr => 100 - (intOf b).toNat)
      case atStart => exact ⟨0, by omega, rfl, rfl, HS.out, by repeat' (first | with_reducible exact Below.refl _ _ | with_reducible assumption | with_reducible refine Below.drew ?_ | with_reducible refine Below.drewN ?_ _ | with_reducible refine Below.alloc ?_ ?_ _ | with_reducible refine Below.setCell ?_ ?_ _ | with_reducible refine Below.setRow ?_ ?_ _ | with_reducible refine below_step (by assumption) ?_ ?_ | (show (_ : Nat) ≤ _; first | omega | (simp <;> omega))), (by first | omega | (simp <;> omega)), by (go_simp <;> (intros; omega)), by (go_simp <;> (intros; omega)), by (go_simp <;> (intros; omega)), by (go_simp <;> (intros; omega)), by simp only [show ∀ s, rowM x y z (x + y + z) p k s 0 = s from fun _ => rfl]; (go_simp <;> (intros; omega))⟩
      case round =>
        obtain ⟨j, hj, rfl, rfl, hsm2, hb2, hsz2, hr0, hr1, hf1, hf2, hr2⟩ := hrel
        obtain ⟨st, hst⟩ : ∃ st, st = rowM x y z (x + y + z) p k (allM x y z (x + y + z) p k) j := ⟨_, rfl⟩
        rw [← hst] at hsm2 hr2 ⊢
        by_cases hlj : (k : Int) + j ≤ p
        · have hnx := step_small (a := k) (b := j) hx hy hz (S := x + y + z) (by omega) hp hlj hsm2
          have hof := offM_bd (x := x) (y := y) (z := z) (S := x + y + z) (p := p) (a := k) (b := j) hx hy hz (by omega) hp hlj
          have m1 := mul_bd (a := k) (A := 30) (b := x + y + z) (B := 3000) (by omega) (by omega)
          have m2 := mul_bd (a := j) (A := 30) (b := x + y + z) (B := 3000) (by omega) (by omega)
          have m3 := mul_bd (a := p - k - j) (A := 30) (b := x + y + z) (B := 3000) (by omega) (by omega)
          have n1 := mul_bd hx (b := p) (B := 30) (by omega)
          have n2 := mul_bd hy (b := p) (B := 30) (by omega)
          have n3 := mul_bd hz (b := p) (B := 30) (by omega)
          have q1 := sz_le (n := k * (x + y + z) - x * p) (b := 90000) (by omega)
          have q2 := sz_le (n := j * (x + y + z) - y * p) (b := 90000) (by omega)
          have q3 := sz_le (n := (p - k - j) * (x + y + z) - z * p) (b := 90000) (by omega)
          have HST := Lib.hid hst
          have HNX := Lib.hid hnx
          have HSM := Lib.hid hsm2
          have ⟨sm1, sm2⟩ := hsm2
          clear hst hnx hsm2 hof
          have HOF := Lib.hid (show offM x y z (x + y + z) p k j = sz (k * (x + y + z) - x * p) + sz (j * (x + y + z) - y * p) + sz ((p - k - j) * (x + y + z) - z * p) from rfl)
          generalize hs1 : sz (k * (x + y + z) - x * p) = s1 at q1 HOF
          generalize hs2 : sz (j * (x + y + z) - y * p) = s2 at q2 HOF
          generalize hs3 : sz ((p - k - j) * (x + y + z) - z * p) = s3 at q3 HOF
          by_cases hc1 : st.off < 0
          · have hd1 : decide (st.off < 0) = true := decide_eq_true hc1
            have HR := Lib.hid (show rowM x y z (x + y + z) p k (allM x y z (x + y + z) p k) (j + 1) = ⟨(k : Int), (j : Int), p - k - j, s1 + s2 + s3⟩ by
              show stepM x y z (x + y + z) p (rowM x y z (x + y + z) p k (allM x y z (x + y + z) p k) j) k j = _
              rw [← HST.out]; unfold stepM; rw [if_pos (by exact .inl hc1)]; rw [HOF.out])
            generalize st.off = so at *
            generalize st.a = sa at *
            generalize st.b = sb at *
            generalize st.c = sc at *
            go_wp2
            go_quiet ((go_at_call 83; exact Calls.quiet_of_same (l01Size_q _ (by omega) _)))
            go_wp2
            go_roundw
            case rel => first | exact ⟨j + 1, by omega, by go_num, by rw [HR.out], by rw [HR.out]; exact ⟨by show (-1 : Int) ≤ s1 + s2 + s3; omega, by show s1 + s2 + s3 ≤ 400000; omega⟩, by repeat' (first | with_reducible exact Below.refl _ _ | with_reducible assumption | with_reducible refine Below.drew ?_ | with_reducible refine Below.drewN ?_ _ | with_reducible refine Below.alloc ?_ ?_ _ | with_reducible refine Below.setCell ?_ ?_ _ | with_reducible refine Below.setRow ?_ ?_ _ | with_reducible refine below_step (by assumption) ?_ ?_ | (show (_ : Nat) ≤ _; first | omega | (simp <;> omega))), (by first | omega | (simp <;> omega)), by (go_simp <;> (intros; omega)), by (go_simp <;> (intros; omega)), by (go_simp <;> (intros; omega)), by (go_simp <;> (intros; omega)), by rw [HR.out]; (go_simp <;> (intros; omega))⟩ | ((repeat (with_reducible apply Exists.intro)); refine And.intro ?_ ?_; rotate_left; focus ((repeat' (with_reducible apply And.intro)) <;> rfl); exact ⟨j + 1, by omega, by go_num, by rw [HR.out], by rw [HR.out]; exact ⟨by show (-1 : Int) ≤ s1 + s2 + s3; omega, by show s1 + s2 + s3 ≤ 400000; omega⟩, by repeat' (first | with_reducible exact Below.refl _ _ | with_reducible assumption | with_reducible refine Below.drew ?_ | with_reducible refine Below.drewN ?_ _ | with_reducible refine Below.alloc ?_ ?_ _ | with_reducible refine Below.setCell ?_ ?_ _ | with_reducible refine Below.setRow ?_ ?_ _ | with_reducible refine below_step (by assumption) ?_ ?_ | (show (_ : Nat) ≤ _; first | omega | (simp <;> omega))), (by first | omega | (simp <;> omega)), by (go_simp <;> (intros; omega)), by (go_simp <;> (intros; omega)), by (go_simp <;> (intros; omega)), by (go_simp <;> (intros; omega)), by rw [HR.out]; (go_simp <;> (intros; omega))⟩)
            case measure => simp [intOf]; omega
          by_cases hc2 : s1 + s2 + s3 < st.off
          · have hd1 : decide (st.off < 0) = false := decide_eq_false hc1
            have hd2 : decide (s1 + s2 + s3 < st.off) = true := decide_eq_true hc2
            have HR := Lib.hid (show rowM x y z (x + y + z) p k (allM x y z (x + y + z) p k) (j + 1) = ⟨(k : Int), (j : Int), p - k - j, s1 + s2 + s3⟩ by
              show stepM x y z (x + y + z) p (rowM x y z (x + y + z) p k (allM x y z (x + y + z) p k) j) k j = _
              rw [← HST.out]; unfold stepM; rw [if_pos (by exact .inr (by rw [HOF.out]; exact hc2))]; rw [HOF.out])
            generalize st.off = so at *
            generalize st.a = sa at *
            generalize st.b = sb at *
            generalize st.c = sc at *
            go_wp2
            go_quiet ((go_at_call 83; exact Calls.quiet_of_same (l01Size_q _ (by omega) _)))
            go_wp2
            go_roundw
            case rel => first | exact ⟨j + 1, by omega, by go_num, by rw [HR.out], by rw [HR.out]; exact ⟨by show (-1 : Int) ≤ s1 + s2 + s3; omega, by show s1 + s2 + s3 ≤ 400000; omega⟩, by repeat' (first | with_reducible exact Below.refl _ _ | with_reducible assumption | with_reducible refine Below.drew ?_ | with_reducible refine Below.drewN ?_ _ | with_reducible refine Below.alloc ?_ ?_ _ | with_reducible refine Below.setCell ?_ ?_ _ | with_reducible refine Below.setRow ?_ ?_ _ | with_reducible refine below_step (by assumption) ?_ ?_ | (show (_ : Nat) ≤ _; first | omega | (simp <;> omega))), (by first | omega | (simp <;> omega)), by (go_simp <;> (intros; omega)), by (go_simp <;> (intros; omega)), by (go_simp <;> (intros; omega)), by (go_simp <;> (intros; omega)), by rw [HR.out]; (go_simp <;> (intros; omega))⟩ | ((repeat (with_reducible apply Exists.intro)); refine And.intro ?_ ?_; rotate_left; focus ((repeat' (with_reducible apply And.intro)) <;> rfl); exact ⟨j + 1, by omega, by go_num, by rw [HR.out], by rw [HR.out]; exact ⟨by show (-1 : Int) ≤ s1 + s2 + s3; omega, by show s1 + s2 + s3 ≤ 400000; omega⟩, by repeat' (first | with_reducible exact Below.refl _ _ | with_reducible assumption | with_reducible refine Below.drew ?_ | with_reducible refine Below.drewN ?_ _ | with_reducible refine Below.alloc ?_ ?_ _ | with_reducible refine Below.setCell ?_ ?_ _ | with_reducible refine Below.setRow ?_ ?_ _ | with_reducible refine below_step (by assumption) ?_ ?_ | (show (_ : Nat) ≤ _; first | omega | (simp <;> omega))), (by first | omega | (simp <;> omega)), by (go_simp <;> (intros; omega)), by (go_simp <;> (intros; omega)), by (go_simp <;> (intros; omega)), by (go_simp <;> (intros; omega)), by rw [HR.out]; (go_simp <;> (intros; omega))⟩)
            case measure => simp [intOf]; omega
          · have hd1 : decide (st.off < 0) = false := decide_eq_false hc1
            have hd2 : decide (s1 + s2 + s3 < st.off) = false := decide_eq_false hc2
            have HR := Lib.hid (show rowM x y z (x + y + z) p k (allM x y z (x + y + z) p k) (j + 1) = st by
              show stepM x y z (x + y + z) p (rowM x y z (x + y + z) p k (allM x y z (x + y + z) p k) j) k j = _
              rw [← HST.out]; unfold stepM; rw [if_neg (by rw [HOF.out]; omega)])
            generalize hso : st.off = so at *
            generalize hsa : st.a = sa at *
            generalize hsb : st.b = sb at *
            generalize hsc : st.c = sc at *
            have HE := Lib.hid (And.intro (And.intro hso hsa) (And.intro hsb hsc))
            clear hso hsa hsb hsc
            go_wp2
            go_quiet ((go_at_call 83; exact Calls.quiet_of_same (l01Size_q _ (by omega) _)))
            go_wp2
            go_roundw
            case rel => first | exact ⟨j + 1, by omega, by go_num, by rw [HR.out, HE.out.1.1], by rw [HR.out]; exact HSM.out, by repeat' (first | with_reducible exact Below.refl _ _ | with_reducible assumption | with_reducible refine Below.drew ?_ | with_reducible refine Below.drewN ?_ _ | with_reducible refine Below.alloc ?_ ?_ _ | with_reducible refine Below.setCell ?_ ?_ _ | with_reducible refine Below.setRow ?_ ?_ _ | with_reducible refine below_step (by assumption) ?_ ?_ | (show (_ : Nat) ≤ _; first | omega | (simp <;> omega))), (by first | omega | (simp <;> omega)), by (go_simp <;> (intros; omega)), by (go_simp <;> (intros; omega)), by (go_simp <;> (intros; omega)), by (go_simp <;> (intros; omega)), by rw [HR.out, HE.out.1.2, HE.out.2.1, HE.out.2.2]; (go_simp <;> (intros; omega))⟩ | ((repeat (with_reducible apply Exists.intro)); refine And.intro ?_ ?_; rotate_left; focus ((repeat' (with_reducible apply And.intro)) <;> rfl); exact ⟨j + 1, by omega, by go_num, by rw [HR.out, HE.out.1.1], by rw [HR.out]; exact HSM.out, by repeat' (first | with_reducible exact Below.refl _ _ | with_reducible assumption | with_reducible refine Below.drew ?_ | with_reducible refine Below.drewN ?_ _ | with_reducible refine Below.alloc ?_ ?_ _ | with_reducible refine Below.setCell ?_ ?_ _ | with_reducible refine Below.setRow ?_ ?_ _ | with_reducible refine below_step (by assumption) ?_ ?_ | (show (_ : Nat) ≤ _; first | omega | (simp <;> omega))), (by first | omega | (simp <;> omega)), by (go_simp <;> (intros; omega)), by (go_simp <;> (intros; omega)), by (go_simp <;> (intros; omega)), by (go_simp <;> (intros; omega)), by rw [HR.out, HE.out.1.2, HE.out.2.1, HE.out.2.2]; (go_simp <;> (intros; omega))⟩)
            case measure => simp [intOf]; omega
        · have hje : (j : Int) = p + 1 - k := by omega
          have HR := Lib.hid (show allM x y z (x + y + z) p (k + 1) = st by
            rw [hst]; show rowM x y z (x + y + z) p k (allM x y z (x + y + z) p k) (p + 1 - k).toNat = _; rw [show (p + 1 - k).toNat = j by omega])
          have HSM := Lib.hid hsm2
          clear hsm2 hst
          generalize hso : st.off = so at *
          generalize hsa : st.a = sa at *
          generalize hsb : st.b = sb at *
          generalize hsc : st.c = sc at *
          have HE := Lib.hid (And.intro (And.intro hso hsa) (And.intro hsb hsc))
          clear hso hsa hsb hsc
          go_wp2
          go_roundw
          case rel => first | exact ⟨k + 1, by omega, by go_num, by rw [HR.out, HE.out.1.1], by rw [HR.out]; exact HSM.out, by repeat' (first | with_reducible exact Below.refl _ _ | with_reducible assumption | with_reducible refine Below.drew ?_ | with_reducible refine Below.drewN ?_ _ | with_reducible refine Below.alloc ?_ ?_ _ | with_reducible refine Below.setCell ?_ ?_ _ | with_reducible refine Below.setRow ?_ ?_ _ | with_reducible refine below_step (by assumption) ?_ ?_ | (show (_ : Nat) ≤ _; first | omega | (simp <;> omega))), (by first | omega | (simp <;> omega)), by (go_simp <;> (intros; omega)), by (go_simp <;> (intros; omega)), by (go_simp <;> (intros; omega)), by (go_simp <;> (intros; omega)), by rw [HR.out, HE.out.1.2, HE.out.2.1, HE.out.2.2]; (go_simp <;> (intros; omega))⟩ | ((repeat (with_reducible apply Exists.intro)); refine And.intro ?_ ?_; rotate_left; focus ((repeat' (with_reducible apply And.intro)) <;> rfl); exact ⟨k + 1, by omega, by go_num, by rw [HR.out, HE.out.1.1], by rw [HR.out]; exact HSM.out, by repeat' (first | with_reducible exact Below.refl _ _ | with_reducible assumption | with_reducible refine Below.drew ?_ | with_reducible refine Below.drewN ?_ _ | with_reducible refine Below.alloc ?_ ?_ _ | with_reducible refine Below.setCell ?_ ?_ _ | with_reducible refine Below.setRow ?_ ?_ _ | with_reducible refine below_step (by assumption) ?_ ?_ | (show (_ : Nat) ≤ _; first | omega | (simp <;> omega))), (by first | omega | (simp <;> omega)), by (go_simp <;> (intros; omega)), by (go_simp <;> (intros; omega)), by (go_simp <;> (intros; omega)), by (go_simp <;> (intros; omega)), by rw [HR.out, HE.out.1.2, HE.out.2.1, HE.out.2.2]; (go_simp <;> (intros; omega))⟩)
          case measure => simp [intOf]; omega
    · have hke : (p + 1).toNat = k := by omega
      have HK := Lib.hid hke
      clear hke hsm
      go_wp2
      rw [HK.out]
      exact bodyPost_ret (v := mixOk (allM x y z (x + y + z) p k)) (res_ctt rfl rfl (by (go_simp <;> (intros; omega))) rfl rfl) rfl ⟨rfl, by repeat' (first | with_reducible exact Below.refl _ _ | with_reducible assumption | with_reducible refine Below.drew ?_ | with_reducible refine Below.drewN ?_ _ | with_reducible refine Below.alloc ?_ ?_ _ | with_reducible refine Below.setCell ?_ ?_ _ | with_reducible refine Below.setRow ?_ ?_ _ | with_reducible refine below_step (by assumption) ?_ ?_ | (show (_ : Nat) ≤ _; first | omega | (simp <;> omega)))⟩
theorem sMix_zero (p : Int) (hp : 1 ≤ p ∧ p ≤ 30) (w : World) : Calls Try.prog 28 #[.agg #[.int .i64 0, .int .i64 0, .int .i64 0], .int .i64 p] w fun e w' => e = .returned (mixErr 4) ∧ Below w.heap.size w w' := by
  have ex : inB 0 0 1000 = true := by decide
  have ep : inB p 1 30 = true := inB_true.2 hp
  go_enter Try.func28, Try.ntmps28
  go_wp2_with ((go_at_call 67; refine (l00In_any _ _ _ _).mono ?_; rintro e w1 ⟨rfl, rfl⟩))
  refine wp_loop_rounds 4 ?_; rw [rounds_succ]
  go_wp2_with (first | (rw [rounds_succ]) | (go_at_call 67; refine (l00In_any _ _ _ _).mono ?_; rintro e w1 ⟨rfl, rfl⟩))
  exact bodyPost_ret (v := mixErr 4) (res_ctt rfl rfl (by (go_simp <;> (intros; omega))) rfl rfl) rfl ⟨rfl, by repeat' (first | with_reducible exact Below.refl _ _ | with_reducible assumption | with_reducible refine Below.drew ?_ | with_reducible refine Below.drewN ?_ _ | with_reducible refine Below.alloc ?_ ?_ _ | with_reducible refine Below.setCell ?_ ?_ _ | with_reducible refine Below.setRow ?_ ?_ _ | with_reducible refine below_step (by assumption) ?_ ?_ | (show (_ : Nat) ≤ _; first | omega | (simp <;> omega)))⟩
end Go.Proofs.Ytigiooollonmjaa
