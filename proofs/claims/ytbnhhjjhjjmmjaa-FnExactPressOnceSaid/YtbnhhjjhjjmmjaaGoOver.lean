/- What goes over between two numbers of a sheet: the program. Written by gen_goover.py. -/
import Derived.Test.YtbnhhjjhjjmmjaaPressG
import Derived.BigQuiet
import Derived.StillTailTactics
namespace Go.Proofs.Ytbnhhjjhjjmmjaa
open Go.RowKit
set_option linter.unusedVariables false
set_option linter.unusedSimpArgs false
set_option maxRecDepth 100000
def letB (one two : Bool) (a b : Int) : Bool := if b < a then one else two
theorem prU_flip {p : Int} {D E : Nat} {c : Nat → Int} (hDE : D < E) {r : Int} (h : mvI p (c D) (c E) = -r) : kc sk 266 (upI (upI c E (c E - r)) D (c D + r)) = kc sk 266 (prU p D E ⟨c, 0⟩) := by
  unfold prU
  refine kc_ext fun j hj => ?_
  simp only [h]
  unfold upI
  by_cases h1 : j = D
  · rw [if_pos h1, if_neg (by omega), if_pos h1]; omega
  · rw [if_neg h1]
    by_cases h2 : j = E
    · rw [if_pos h2, if_pos h2]; omega
    · rw [if_neg h2, if_neg h2, if_neg h1]
theorem may1_any (f one two : Bool) (x1 x2 : Nat) (w : World) (h1 : rowOf w x1 = #[.bool one]) (h1s : x1 < w.heap.size) (h2 : rowOf w x2 = #[.bool two]) (h2s : x2 < w.heap.size) :
    Calls Try.prog 106 #[.bool f, .pointer (some ⟨x1, 0, none⟩), .pointer (some ⟨x2, 0, none⟩)] w fun e w' => e = .returned (.bool (if f then one else two)) ∧ w = w' := by
  cases f <;> cases one <;> cases two
  all_goals
    go_enter Try.func106, Try.ntmps106
    go_wp2
    go_ret
    exact ⟨rfl, rfl⟩
theorem may2_any (f : Bool) (w : World) : Calls Try.prog 107 #[.bool f] w fun e w' => e = .returned (.bool true) ∧ w = w' := by
  go_enter Try.func107, Try.ntmps107
  go_wp2
  go_ret
  exact ⟨rfl, rfl⟩
set_option maxHeartbeats 8000000 in
theorem goOver1_any (p D E B : Nat) (hB : B ≤ p) (hD : 2 ≤ D ∧ D < 258) (hE : 2 ≤ E ∧ E < 258) (hDE : D < E) (c : Nat → Int) (hcD : 0 ≤ c D ∧ c D ≤ 1000) (hcE : 0 ≤ c E ∧ c E ≤ 1000) (q : Int) (hq : 1 ≤ q ∧ q ≤ 8) (x1 x2 : Nat) (one two : Bool) (w : World) (hr : rowOf w p = kc sk 266 c) (hfp : frOf w p = (0, 0)) (hp : p < w.heap.size) (h1 : rowOf w x1 = #[.bool one]) (h1s : x1 < w.heap.size) (h2 : rowOf w x2 = #[.bool two]) (h2s : x2 < w.heap.size) :
    Calls Try.prog 105 #[.pointer (some ⟨p, D, none⟩), .pointer (some ⟨p, E, none⟩), .int .i8 q, .func (.func 106) #[] #[.pointer (some ⟨x1, 0, none⟩), .pointer (some ⟨x2, 0, none⟩)]] w fun e w' => e = .returned (.int .i64 (if letB one two (c D) (c E) = true then absI (mvI q (c D) (c E)) else 0)) ∧ OneP p B w w' (if letB one two (c D) (c E) = true then ⟨prU q D E ⟨c, 0⟩, 0⟩ else ⟨c, 0⟩) := by
  have hskD : sk D = .i16 := by unfold sk; rw [if_neg (by omega), if_pos (by omega)]
  have hskE : sk E = .i16 := by unfold sk; rw [if_neg (by omega), if_pos (by omega)]
  have ⟨cd1, cd2⟩ := hcD
  have ⟨ce1, ce2⟩ := hcE
  have HMAY := Lib.hid (fun (f : Bool) w h1 h1s h2 h2s => may1_any f one two x1 x2 w h1 h1s h2 h2s)
  by_cases h : c E < c D
  · cases one
    case true =>
      have hlet : letB true two (c D) (c E) = true := by unfold letB; rw [if_pos h]
      rw [if_pos hlet, if_pos hlet]
      clear hlet
      have hm := mul_part (v := c D - c E) (p := q) (by omega) (by omega)
      have hv : mvI q (c D) (c E) = (c D - c E) * q / 16 := if_pos h
      have hab : absI (mvI q (c D) (c E)) = (c D - c E) * q / 16 := by rw [hv]; unfold absI; rw [if_neg (by omega)]
      have HROW := Lib.hid (show kc sk 266 (upI (upI c D (c D - (c D - c E) * q / 16)) E (c E + (c D - c E) * q / 16)) = kc sk 266 (prU q D E ⟨c, 0⟩) by unfold prU; simp only [hv])
      have HAB := Lib.hid hab
      have ⟨q1, q2, q3⟩ := hm
      have ⟨qq1, qq2⟩ := hq
      clear hv hab hm hcD hcE hq
      have hlt : c E < c D := h
      go_enter Try.func105, Try.ntmps105
      go_wp2
      go_quiet (fail)
      go_wp2_with ((go_at_call 106; refine (HMAY.out _ _ (by (go_simp <;> (intros; omega))) (by first | omega | (simp <;> omega)) (by (go_simp <;> (intros; omega))) (by first | omega | (simp <;> omega))).mono ?_; rintro e w1 ⟨rfl, rfl⟩))
      go_quiet (fail)
      go_wp2
      go_ret
      exact ⟨by rw [HAB.out]; rfl, ⟨by rw [← HROW.out]; (go_simp <;> (intros; omega)), by (go_simp <;> (intros; omega)), (by first | omega | (simp <;> omega)), fun b h1 h2 => ⟨by (go_simp <;> (intros; omega)), by (go_simp <;> (intros; omega))⟩, by repeat' (first | with_reducible exact Below.refl _ _ | with_reducible assumption | with_reducible refine Below.drew ?_ | with_reducible refine Below.drewN ?_ _ | with_reducible refine Below.alloc ?_ ?_ _ | with_reducible refine Below.setCell ?_ ?_ _ | with_reducible refine Below.setRow ?_ ?_ _ | with_reducible refine below_step (by assumption) ?_ ?_ | (show (_ : Nat) ≤ _; first | omega | (simp <;> omega)))⟩⟩
    case false =>
      have hlet : ¬ letB false two (c D) (c E) = true := by unfold letB; rw [if_pos h]; simp
      rw [if_neg hlet, if_neg hlet]
      clear hlet
      have hlt : c E < c D := h
      go_enter Try.func105, Try.ntmps105
      go_wp2
      go_quiet (fail)
      go_wp2_with ((go_at_call 106; refine (HMAY.out _ _ (by (go_simp <;> (intros; omega))) (by first | omega | (simp <;> omega)) (by (go_simp <;> (intros; omega))) (by first | omega | (simp <;> omega))).mono ?_; rintro e w1 ⟨rfl, rfl⟩))
      go_ret
      exact ⟨rfl, ⟨by (go_simp <;> (intros; omega)), by (go_simp <;> (intros; omega)), (by first | omega | (simp <;> omega)), fun b h1 h2 => ⟨by (go_simp <;> (intros; omega)), by (go_simp <;> (intros; omega))⟩, by repeat' (first | with_reducible exact Below.refl _ _ | with_reducible assumption | with_reducible refine Below.drew ?_ | with_reducible refine Below.drewN ?_ _ | with_reducible refine Below.alloc ?_ ?_ _ | with_reducible refine Below.setCell ?_ ?_ _ | with_reducible refine Below.setRow ?_ ?_ _ | with_reducible refine below_step (by assumption) ?_ ?_ | (show (_ : Nat) ≤ _; first | omega | (simp <;> omega)))⟩⟩
  · cases two
    case true =>
      have hlet : letB one true (c D) (c E) = true := by unfold letB; rw [if_neg h]
      rw [if_pos hlet, if_pos hlet]
      clear hlet
      have hm := mul_part (v := c E - c D) (p := q) (by omega) (by omega)
      have hv : mvI q (c D) (c E) = -((c E - c D) * q / 16) := if_neg h
      have hab : absI (mvI q (c D) (c E)) = (c E - c D) * q / 16 := by rw [hv]; unfold absI; split <;> omega
      have HROW := Lib.hid (prU_flip (c := c) hDE hv)
      have HAB := Lib.hid hab
      have ⟨q1, q2, q3⟩ := hm
      have ⟨qq1, qq2⟩ := hq
      clear hv hab hm hcD hcE hq
      have hlt : ¬ (c E < c D) := h
      have hltd : decide (c E < c D) = false := decide_eq_false h
      go_enter Try.func105, Try.ntmps105
      go_wp2
      go_quiet (fail)
      go_wp2_with ((go_at_call 106; refine (HMAY.out _ _ (by (go_simp <;> (intros; omega))) (by first | omega | (simp <;> omega)) (by (go_simp <;> (intros; omega))) (by first | omega | (simp <;> omega))).mono ?_; rintro e w1 ⟨rfl, rfl⟩))
      go_quiet (fail)
      go_wp2
      go_ret
      exact ⟨by rw [HAB.out]; rfl, ⟨by rw [← HROW.out]; (go_simp <;> (intros; omega)), by (go_simp <;> (intros; omega)), (by first | omega | (simp <;> omega)), fun b h1 h2 => ⟨by (go_simp <;> (intros; omega)), by (go_simp <;> (intros; omega))⟩, by repeat' (first | with_reducible exact Below.refl _ _ | with_reducible assumption | with_reducible refine Below.drew ?_ | with_reducible refine Below.drewN ?_ _ | with_reducible refine Below.alloc ?_ ?_ _ | with_reducible refine Below.setCell ?_ ?_ _ | with_reducible refine Below.setRow ?_ ?_ _ | with_reducible refine below_step (by assumption) ?_ ?_ | (show (_ : Nat) ≤ _; first | omega | (simp <;> omega)))⟩⟩
    case false =>
      have hlet : ¬ letB one false (c D) (c E) = true := by unfold letB; rw [if_neg h]; simp
      rw [if_neg hlet, if_neg hlet]
      clear hlet
      have hlt : ¬ (c E < c D) := h
      have hltd : decide (c E < c D) = false := decide_eq_false h
      go_enter Try.func105, Try.ntmps105
      go_wp2
      go_quiet (fail)
      go_wp2_with ((go_at_call 106; refine (HMAY.out _ _ (by (go_simp <;> (intros; omega))) (by first | omega | (simp <;> omega)) (by (go_simp <;> (intros; omega))) (by first | omega | (simp <;> omega))).mono ?_; rintro e w1 ⟨rfl, rfl⟩))
      go_ret
      exact ⟨rfl, ⟨by (go_simp <;> (intros; omega)), by (go_simp <;> (intros; omega)), (by first | omega | (simp <;> omega)), fun b h1 h2 => ⟨by (go_simp <;> (intros; omega)), by (go_simp <;> (intros; omega))⟩, by repeat' (first | with_reducible exact Below.refl _ _ | with_reducible assumption | with_reducible refine Below.drew ?_ | with_reducible refine Below.drewN ?_ _ | with_reducible refine Below.alloc ?_ ?_ _ | with_reducible refine Below.setCell ?_ ?_ _ | with_reducible refine Below.setRow ?_ ?_ _ | with_reducible refine below_step (by assumption) ?_ ?_ | (show (_ : Nat) ≤ _; first | omega | (simp <;> omega)))⟩⟩
set_option maxHeartbeats 8000000 in
theorem goOver2_any (p D E B : Nat) (hB : B ≤ p) (hD : 2 ≤ D ∧ D < 258) (hE : 2 ≤ E ∧ E < 258) (hDE : D < E) (c : Nat → Int) (hcD : 0 ≤ c D ∧ c D ≤ 1000) (hcE : 0 ≤ c E ∧ c E ≤ 1000) (q : Int) (hq : 1 ≤ q ∧ q ≤ 8) (w : World) (hr : rowOf w p = kc sk 266 c) (hfp : frOf w p = (0, 0)) (hp : p < w.heap.size) :
    Calls Try.prog 105 #[.pointer (some ⟨p, D, none⟩), .pointer (some ⟨p, E, none⟩), .int .i8 q, .func (.func 107) #[] #[]] w fun e w' => e = .returned (.int .i64 (absI (mvI q (c D) (c E)))) ∧ OneP p B w w' ⟨prU q D E ⟨c, 0⟩, 0⟩ := by
  have hskD : sk D = .i16 := by unfold sk; rw [if_neg (by omega), if_pos (by omega)]
  have hskE : sk E = .i16 := by unfold sk; rw [if_neg (by omega), if_pos (by omega)]
  have ⟨cd1, cd2⟩ := hcD
  have ⟨ce1, ce2⟩ := hcE
  have HMAY := Lib.hid (fun (f : Bool) w => may2_any f w)
  by_cases h : c E < c D
  · have hm := mul_part (v := c D - c E) (p := q) (by omega) (by omega)
    have hv : mvI q (c D) (c E) = (c D - c E) * q / 16 := if_pos h
    have hab : absI (mvI q (c D) (c E)) = (c D - c E) * q / 16 := by rw [hv]; unfold absI; rw [if_neg (by omega)]
    have HROW := Lib.hid (show kc sk 266 (upI (upI c D (c D - (c D - c E) * q / 16)) E (c E + (c D - c E) * q / 16)) = kc sk 266 (prU q D E ⟨c, 0⟩) by unfold prU; simp only [hv])
    have HAB := Lib.hid hab
    have ⟨q1, q2, q3⟩ := hm
    have ⟨qq1, qq2⟩ := hq
    clear hv hab hm hcD hcE hq
    have hlt : c E < c D := h
    go_enter Try.func105, Try.ntmps105
    go_wp2
    go_quiet (fail)
    go_wp2_with ((go_at_call 107; refine (HMAY.out _ _).mono ?_; rintro e w1 ⟨rfl, rfl⟩))
    go_quiet (fail)
    go_wp2
    go_ret
    exact ⟨by rw [HAB.out]; rfl, ⟨by rw [← HROW.out]; (go_simp <;> (intros; omega)), by (go_simp <;> (intros; omega)), (by first | omega | (simp <;> omega)), fun b h1 h2 => ⟨by (go_simp <;> (intros; omega)), by (go_simp <;> (intros; omega))⟩, by repeat' (first | with_reducible exact Below.refl _ _ | with_reducible assumption | with_reducible refine Below.drew ?_ | with_reducible refine Below.drewN ?_ _ | with_reducible refine Below.alloc ?_ ?_ _ | with_reducible refine Below.setCell ?_ ?_ _ | with_reducible refine Below.setRow ?_ ?_ _ | with_reducible refine below_step (by assumption) ?_ ?_ | (show (_ : Nat) ≤ _; first | omega | (simp <;> omega)))⟩⟩
  · have hm := mul_part (v := c E - c D) (p := q) (by omega) (by omega)
    have hv : mvI q (c D) (c E) = -((c E - c D) * q / 16) := if_neg h
    have hab : absI (mvI q (c D) (c E)) = (c E - c D) * q / 16 := by rw [hv]; unfold absI; split <;> omega
    have HROW := Lib.hid (prU_flip (c := c) hDE hv)
    have HAB := Lib.hid hab
    have ⟨q1, q2, q3⟩ := hm
    have ⟨qq1, qq2⟩ := hq
    clear hv hab hm hcD hcE hq
    have hlt : ¬ (c E < c D) := h
    have hltd : decide (c E < c D) = false := decide_eq_false h
    go_enter Try.func105, Try.ntmps105
    go_wp2
    go_quiet (fail)
    go_wp2_with ((go_at_call 107; refine (HMAY.out _ _).mono ?_; rintro e w1 ⟨rfl, rfl⟩))
    go_quiet (fail)
    go_wp2
    go_ret
    exact ⟨by rw [HAB.out]; rfl, ⟨by rw [← HROW.out]; (go_simp <;> (intros; omega)), by (go_simp <;> (intros; omega)), (by first | omega | (simp <;> omega)), fun b h1 h2 => ⟨by (go_simp <;> (intros; omega)), by (go_simp <;> (intros; omega))⟩, by repeat' (first | with_reducible exact Below.refl _ _ | with_reducible assumption | with_reducible refine Below.drew ?_ | with_reducible refine Below.drewN ?_ _ | with_reducible refine Below.alloc ?_ ?_ _ | with_reducible refine Below.setCell ?_ ?_ _ | with_reducible refine Below.setRow ?_ ?_ _ | with_reducible refine below_step (by assumption) ?_ ?_ | (show (_ : Nat) ≤ _; first | omega | (simp <;> omega)))⟩⟩
end Go.Proofs.Ytbnhhjjhjjmmjaa
