/- What is asked of a sheet and a cell. Written by gen_ask.py. -/
import Derived.Test.YtigiooollonmjaaSheetOkI
namespace Go.Proofs.Ytigiooollonmjaa
open Go.RowKit
set_option linter.unusedVariables false
set_option linter.unusedSimpArgs false
set_option maxRecDepth 100000
/-- The code of a question: the sheet is valid, it has the cell, the rest is as told. -/
def askB (o i f : Bool) : Int := if o then (if i && f then 0 else 2) else 1
theorem askB_and (o i f : Bool) : askB o (i && f) true = askB o i f := by cases o <;> cases i <;> cases f <;> rfl
theorem isP_nat {c : Nat → Int} {x y : Int} (ho : okS c = true) (hi : isP c x y = true) : ∃ x' y' : Nat, x = x' ∧ y = y' ∧ x' < 8 ∧ y' < 8 := by
  have ⟨h0, h1, _⟩ : OkS c := by simpa [okS] using ho
  simp only [isP, Bool.and_eq_true, inB_true] at hi
  exact ⟨x.toNat, y.toNat, by omega, by omega, by omega, by omega⟩
theorem res_tt {P : Program} {fn : Func} {tmps : Array Value} {w : World} {u0 : Tmp} {x0 : Value} {u1 : Tmp} {x1 : Value} (h : fn.results = #[.tmp u0, .tmp u1]) (hx0 : tmps.getD u0 undef = x0) (hx1 : tmps.getD u1 undef = x1) :
    (results fn tmps).run P w = .ok (.tuple #[x0, x1]) w := by
  simp only [Array.getD_eq_getD_getElem?] at *
  simp [results, h, hx0, hx1]
theorem toSpot_any (x y : Int) (w : World) : Calls Try.prog 21 #[.agg #[.int .i8 x, .int .i8 y]] w fun e w' => e = .returned (.agg #[.int .i8 x, .int .i8 y]) ∧ Below w.heap.size w w' := by
  go_enter Try.func21, Try.ntmps21
  go_wp2
  refine bodyPost_ret (v := .agg #[.int .i8 x, .int .i8 y]) (res_c rfl rfl (by (go_simp <;> (intros; omega)))) rfl ⟨rfl, by repeat' (first | with_reducible exact Below.refl _ _ | with_reducible assumption | with_reducible refine Below.drew ?_ | with_reducible refine Below.drewN ?_ _ | with_reducible refine Below.alloc ?_ ?_ _ | with_reducible refine Below.setCell ?_ ?_ _ | with_reducible refine Below.setRow ?_ ?_ _ | with_reducible refine below_step (by assumption) ?_ ?_ | (show (_ : Nat) ≤ _; first | omega | (simp <;> omega)))⟩
set_option maxHeartbeats 1000000 in
theorem l01Asked_any (p : Nat) (c : Nat → Int) (hf : FitSheet c) (x y : Int) (hx : -128 ≤ x ∧ x ≤ 127) (hy : -128 ≤ y ∧ y ≤ 127) (f : Bool) (w : World) (hr : rowOf w p = kc sk 266 c) (hp : p < w.heap.size) :
    Calls Try.prog 110 #[.pointer (some ⟨p, 0, none⟩), .agg #[.int .i8 x, .int .i8 y], .bool f] w fun e w' => e = .returned (.int .i64 (askB (okS c) (isP c x y) f)) ∧ Below w.heap.size w w' := by
  have hO := fun w hr hp => l01Ok_any p c hf w hr hp
  have hI := fun w hr hp => l01Is_any p c hf x y hx hy w hr hp
  generalize okS c = b0 at hO ⊢
  generalize isP c x y = b1 at hI ⊢
  have HO := Lib.hid hO
  have HI := Lib.hid hI
  clear hO hI
  cases b0
  · go_enter Try.func110, Try.ntmps110
    go_wp2_with (first | (go_at_call 117; refine (HO.out _ (by (go_simp <;> (intros; omega))) (by first | omega | (simp <;> omega))).mono ?_; rintro e w1 ⟨rfl, hb1⟩; have r1 := keep_rowA hb1; have f1 := keep_frA hb1; have s1 := hb1.size; (try simp only [World.size_alloc, World.size_setCell, setRow_size, World.size_drew, size_drewNm] at r1 f1 s1)) | (go_at_call 122; refine (HI.out _ (by (go_simp <;> (intros; omega))) (by first | omega | (simp <;> omega))).mono ?_; rintro e w1 ⟨rfl, hb1⟩; have r1 := keep_rowA hb1; have f1 := keep_frA hb1; have s1 := hb1.size; (try simp only [World.size_alloc, World.size_setCell, setRow_size, World.size_drew, size_drewNm] at r1 f1 s1)))
    go_ret
    exact ⟨rfl, by repeat' (first | with_reducible exact Below.refl _ _ | with_reducible assumption | with_reducible refine Below.drew ?_ | with_reducible refine Below.drewN ?_ _ | with_reducible refine Below.alloc ?_ ?_ _ | with_reducible refine Below.setCell ?_ ?_ _ | with_reducible refine Below.setRow ?_ ?_ _ | with_reducible refine below_step (by assumption) ?_ ?_ | (show (_ : Nat) ≤ _; first | omega | (simp <;> omega)))⟩
  · cases b1 <;> cases f
    all_goals
      go_enter Try.func110, Try.ntmps110
      go_wp2_with (first | (go_at_call 117; refine (HO.out _ (by (go_simp <;> (intros; omega))) (by first | omega | (simp <;> omega))).mono ?_; rintro e w1 ⟨rfl, hb1⟩; have r1 := keep_rowA hb1; have f1 := keep_frA hb1; have s1 := hb1.size; (try simp only [World.size_alloc, World.size_setCell, setRow_size, World.size_drew, size_drewNm] at r1 f1 s1)) | (go_at_call 122; refine (HI.out _ (by (go_simp <;> (intros; omega))) (by first | omega | (simp <;> omega))).mono ?_; rintro e w1 ⟨rfl, hb1⟩; have r1 := keep_rowA hb1; have f1 := keep_frA hb1; have s1 := hb1.size; (try simp only [World.size_alloc, World.size_setCell, setRow_size, World.size_drew, size_drewNm] at r1 f1 s1)))
      go_ret
      exact ⟨rfl, by repeat' (first | with_reducible exact Below.refl _ _ | with_reducible assumption | with_reducible refine Below.drew ?_ | with_reducible refine Below.drewN ?_ _ | with_reducible refine Below.alloc ?_ ?_ _ | with_reducible refine Below.setCell ?_ ?_ _ | with_reducible refine Below.setRow ?_ ?_ _ | with_reducible refine below_step (by assumption) ?_ ?_ | (show (_ : Nat) ≤ _; first | omega | (simp <;> omega)))⟩
theorem l01Ink_any (k : Int) (w : World) : Calls Try.prog 85 #[.int .i64 k] w fun e w' => e = .returned (.bool (inB k 0 2)) ∧ w = w' := by
  go_enter Try.func85, Try.ntmps85
  go_wp2_with ((go_at_call 67; refine (l00In_any _ _ _ _).mono ?_; rintro e w1 ⟨rfl, rfl⟩))
  go_ret
  exact ⟨rfl, rfl⟩
theorem isInk_any (k : Int) (w : World) : Calls Try.prog 89 #[.int .i64 k] w fun e w' => e = .returned (.bool (inB k 0 2)) ∧ w = w' := by
  go_enter Try.func89, Try.ntmps89
  go_wp2_with ((go_at_call 75; refine (within_any _ _ _ _).mono ?_; rintro e w1 ⟨rfl, rfl⟩))
  go_ret
  exact ⟨rfl, rfl⟩
end Go.Proofs.Ytigiooollonmjaa
