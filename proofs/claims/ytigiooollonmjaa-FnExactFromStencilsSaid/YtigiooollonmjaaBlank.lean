/- White pictures and plain sheets. -/
import Derived.Test.YtigiooollonmjaaShapes
import Derived.Test.YtigiooollonmjaaEq
import Derived.Lib.Hide
namespace Go.Proofs.Ytigiooollonmjaa
open Go.RowKit
set_option linter.unusedVariables false
set_option linter.unusedSimpArgs false
set_option maxRecDepth 100000

def blank (a b : Int) : Nat → Int := fun j => if j = 0 then a else if j = 1 then b else 0
def blankV (ks : Nat → IntKind) (n : Nat) (a b : Int) : Value :=
  if inB a 1 8 = true ∧ inB b 1 8 = true then .tuple #[.agg (kc ks n (blank a b)), .int .i64 0] else .tuple #[.agg (kc ks n fun _ => 0), .int .i64 2]
theorem blankV_yes {ks : Nat → IntKind} {n : Nat} {a b : Int} (h : inB a 1 8 = true) (g : inB b 1 8 = true) : blankV ks n a b = .tuple #[.agg (kc ks n (blank a b)), .int .i64 0] := if_pos ⟨h, g⟩
theorem blankV_no1 {ks : Nat → IntKind} {n : Nat} {a b : Int} (h : inB a 1 8 = false) : blankV ks n a b = .tuple #[.agg (kc ks n fun _ => 0), .int .i64 2] := if_neg (fun g => by simp [h] at g)
theorem blankV_no2 {ks : Nat → IntKind} {n : Nat} {a b : Int} (h : inB b 1 8 = false) : blankV ks n a b = .tuple #[.agg (kc ks n fun _ => 0), .int .i64 2] := if_neg (fun g => by simp [h] at g)

theorem sBlankPicture_any (a b : Int) (w : World) : Calls Try.prog 79 #[.int .i64 a, .int .i64 b] w fun e w' => e = .returned (blankV pk 66 a b) ∧ Below w.heap.size w w' := by
  cases ha : inB a 1 8
  · go_enter Try.func79, Try.ntmps79
    go_wp2_with ((go_at_call 67; refine (l00In_any _ _ _ _).mono ?_; rintro e w1 ⟨rfl, rfl⟩))
    refine bodyPost_ret (v := blankV pk 66 a b) ?_ rfl ⟨rfl, by repeat' (first | with_reducible exact Below.refl _ _ | with_reducible assumption | with_reducible refine Below.drew ?_ | with_reducible refine Below.drewN ?_ _ | with_reducible refine Below.alloc ?_ ?_ _ | with_reducible refine Below.setCell ?_ ?_ _ | with_reducible refine Below.setRow ?_ ?_ _ | with_reducible refine below_step (by assumption) ?_ ?_ | (show (_ : Nat) ≤ _; first | omega | (simp <;> omega)))⟩
    rw [blankV_no1 ha]
    exact res_ct rfl rfl (by (go_simp <;> (intros; omega))) rfl
  · have ⟨ha1, ha2⟩ := inB_true.1 ha
    cases hb : inB b 1 8
    · go_enter Try.func79, Try.ntmps79
      go_wp2_with ((go_at_call 67; refine (l00In_any _ _ _ _).mono ?_; rintro e w1 ⟨rfl, rfl⟩))
      refine bodyPost_ret (v := blankV pk 66 a b) ?_ rfl ⟨rfl, by repeat' (first | with_reducible exact Below.refl _ _ | with_reducible assumption | with_reducible refine Below.drew ?_ | with_reducible refine Below.drewN ?_ _ | with_reducible refine Below.alloc ?_ ?_ _ | with_reducible refine Below.setCell ?_ ?_ _ | with_reducible refine Below.setRow ?_ ?_ _ | with_reducible refine below_step (by assumption) ?_ ?_ | (show (_ : Nat) ≤ _; first | omega | (simp <;> omega)))⟩
      rw [blankV_no2 hb]
      exact res_ct rfl rfl (by (go_simp <;> (intros; omega))) rfl
    · have ⟨hb1, hb2⟩ := inB_true.1 hb
      go_enter Try.func79, Try.ntmps79
      go_wp2_with ((go_at_call 67; refine (l00In_any _ _ _ _).mono ?_; rintro e w1 ⟨rfl, rfl⟩))
      refine bodyPost_ret (v := blankV pk 66 a b) ?_ rfl ⟨rfl, by repeat' (first | with_reducible exact Below.refl _ _ | with_reducible assumption | with_reducible refine Below.drew ?_ | with_reducible refine Below.drewN ?_ _ | with_reducible refine Below.alloc ?_ ?_ _ | with_reducible refine Below.setCell ?_ ?_ _ | with_reducible refine Below.setRow ?_ ?_ _ | with_reducible refine below_step (by assumption) ?_ ?_ | (show (_ : Nat) ≤ _; first | omega | (simp <;> omega)))⟩
      rw [blankV_yes ha hb]
      exact res_ct rfl rfl (by go_simp; rfl) rfl
theorem iBlankPicture_any (a b : Int) (w : World) : Calls Try.prog 81 #[.int .i64 a, .int .i64 b] w fun e w' => e = .returned (blankV pk 66 a b) ∧ Below w.heap.size w w' := by
  cases ha : inB a 1 8
  · go_enter Try.func81, Try.ntmps81
    go_wp2_with ((go_at_call 75; refine (within_any _ _ _ _).mono ?_; rintro e w1 ⟨rfl, rfl⟩))
    refine bodyPost_ret (v := blankV pk 66 a b) ?_ rfl ⟨rfl, by repeat' (first | with_reducible exact Below.refl _ _ | with_reducible assumption | with_reducible refine Below.drew ?_ | with_reducible refine Below.drewN ?_ _ | with_reducible refine Below.alloc ?_ ?_ _ | with_reducible refine Below.setCell ?_ ?_ _ | with_reducible refine Below.setRow ?_ ?_ _ | with_reducible refine below_step (by assumption) ?_ ?_ | (show (_ : Nat) ≤ _; first | omega | (simp <;> omega)))⟩
    rw [blankV_no1 ha]
    exact res_ct rfl rfl (by (go_simp <;> (intros; omega))) rfl
  · have ⟨ha1, ha2⟩ := inB_true.1 ha
    cases hb : inB b 1 8
    · go_enter Try.func81, Try.ntmps81
      go_wp2_with ((go_at_call 75; refine (within_any _ _ _ _).mono ?_; rintro e w1 ⟨rfl, rfl⟩))
      refine bodyPost_ret (v := blankV pk 66 a b) ?_ rfl ⟨rfl, by repeat' (first | with_reducible exact Below.refl _ _ | with_reducible assumption | with_reducible refine Below.drew ?_ | with_reducible refine Below.drewN ?_ _ | with_reducible refine Below.alloc ?_ ?_ _ | with_reducible refine Below.setCell ?_ ?_ _ | with_reducible refine Below.setRow ?_ ?_ _ | with_reducible refine below_step (by assumption) ?_ ?_ | (show (_ : Nat) ≤ _; first | omega | (simp <;> omega)))⟩
      rw [blankV_no2 hb]
      exact res_ct rfl rfl (by (go_simp <;> (intros; omega))) rfl
    · have ⟨hb1, hb2⟩ := inB_true.1 hb
      go_enter Try.func81, Try.ntmps81
      go_wp2_with ((go_at_call 75; refine (within_any _ _ _ _).mono ?_; rintro e w1 ⟨rfl, rfl⟩))
      refine bodyPost_ret (v := blankV pk 66 a b) ?_ rfl ⟨rfl, by repeat' (first | with_reducible exact Below.refl _ _ | with_reducible assumption | with_reducible refine Below.drew ?_ | with_reducible refine Below.drewN ?_ _ | with_reducible refine Below.alloc ?_ ?_ _ | with_reducible refine Below.setCell ?_ ?_ _ | with_reducible refine Below.setRow ?_ ?_ _ | with_reducible refine below_step (by assumption) ?_ ?_ | (show (_ : Nat) ≤ _; first | omega | (simp <;> omega)))⟩
      rw [blankV_yes ha hb]
      exact res_ct rfl rfl (by go_simp; rfl) rfl
end Go.Proofs.Ytigiooollonmjaa
