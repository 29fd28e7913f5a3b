/- The walk of the statement FnExactLiftCell. Written by gen_lift.py. -/
import Derived.Test.YtigiooollonmjaaLiftS
import Derived.Test.YtigiooollonmjaaLiftI
import Derived.Test.YtigiooollonmjaaEq
import Derived.Test.YtigiooollonmjaaBrush
import Derived.Deep.RegionHeld3
import Derived.Deep.DeepCutAuto
import Derived.Test.YtigiooollonmjaaOpen
namespace Go.Proofs.Ytigiooollonmjaa
open Go.RowKit Go.ChangeShapes Go.WideShapes Go.ChangeAt
set_option linter.unusedVariables false
set_option linter.unusedSimpArgs false
set_option maxRecDepth 100000
/-- What the statement's two calls leave: a sheet and a brush in blocks of its own. -/
def TwoL (w wx : World) (c : Nat → Int) (r1 r2 : Array Value) (e : Nat → Int) (y : Array Value) (z : Int) (s5 s6 s7 : Value) : Prop := ∃ g h : Nat, s5 = .pointer (some ⟨g, 0, none⟩) ∧ s6 = .pointer (some ⟨h, 0, none⟩) ∧ s7 = .int .i64 z ∧ rowOf wx g = kc sk 266 e ∧ rowOf wx h = y ∧ g < wx.heap.size ∧ h < wx.heap.size ∧ w.heap.size + 3 ≤ g ∧ w.heap.size + 3 ≤ h ∧ Below w.heap.size w wx ∧ rowOf wx w.heap.size = kc sk 266 c ∧ rowOf wx (w.heap.size + 1) = r1 ∧ rowOf wx (w.heap.size + 1 + 1) = r2
set_option maxHeartbeats 40000000 in
theorem FnExactLiftCell_walk (c : Nat → Int) (hf : FitSheet c) (a b d wt sh : Int) (hb : FitBrush a b d wt sh) (x y : Int) (hs : (-128 ≤ x ∧ x ≤ 127) ∧ -128 ≤ y ∧ y ≤ 127) (p : Int) (hp : -9223372036854775808 ≤ p ∧ p ≤ 9223372036854775807) (w : World) : Calls Try.prog 4 #[.agg (kc sk 266 c), .agg (brush a b d wt sh), .agg #[.int .i8 x, .int .i8 y], .int .i64 p] w fun e w' => e = .returned (.bool true) ∧ Below w.heap.size w w' := by
  obtain ⟨e, a1, b1, d1, wt1, sh1, z, E⟩ := liftV_is c a b d wt sh x y p
  have HS := Lib.hid (fun w => E ▸ sLift_any c hf a b d wt sh hb x y hs.1 hs.2 p w)
  have HI := Lib.hid (fun w => E ▸ iLift_any c hf a b d wt sh hb x y hs.1 hs.2 p w)
  clear E hf hb hp hs
  go_enter Try.func4, Try.ntmps4
  go_upto_region 1 with fail
  go_cut [9, 10, 11] (fun s5 s6 s7 wx => TwoL w wx c (brush a b d wt sh) #[.int .i8 x, .int .i8 y] e (brush a1 b1 d1 wt1 sh1) z s5 s6 s7)
  case first =>
    go_region_held3 (fun w' => rowOf w' w.heap.size = kc sk 266 c ∧ rowOf w' (w.heap.size + 1) = brush a b d wt sh ∧ rowOf w' (w.heap.size + 1 + 1) = #[.int .i8 x, .int .i8 y]) (go_simp) (first | (go_at_call 20; refine (toSheet_any _ _).mono ?_; rintro e w1 ⟨rfl, hb1⟩; have r1 := keep_rowA hb1; have f1 := keep_frA hb1; have s1 := hb1.size; (try simp only [World.size_alloc, World.size_setCell, setRow_size, World.size_drew, size_drewNm] at r1 f1 s1)) | (go_at_call 16; refine (toBrush_any _ _ _ _ _ _).mono ?_; rintro e w1 ⟨rfl, hb1⟩; have r1 := keep_rowA hb1; have f1 := keep_frA hb1; have s1 := hb1.size; (try simp only [World.size_alloc, World.size_setCell, setRow_size, World.size_drew, size_drewNm] at r1 f1 s1)) | (go_at_call 21; refine (toSpot_any _ _ _).mono ?_; rintro e w1 ⟨rfl, hb1⟩; have r1 := keep_rowA hb1; have f1 := keep_frA hb1; have s1 := hb1.size; (try simp only [World.size_alloc, World.size_setCell, setRow_size, World.size_drew, size_drewNm] at r1 f1 s1)) | (go_at_call 19; refine (HS.out _).mono ?_; rintro e w1 ⟨rfl, hb1⟩; have r1 := keep_rowA hb1; have f1 := keep_frA hb1; have s1 := hb1.size; (try simp only [World.size_alloc, World.size_setCell, setRow_size, World.size_drew, size_drewNm] at r1 f1 s1)))
    all_goals (go_wp2_with fail; go_meet; exact ⟨_, _, rfl, rfl, rfl, by (go_simp <;> (intros; omega)), by (go_simp <;> (intros; omega)), (by first | omega | (simp <;> omega)), (by first | omega | (simp <;> omega)), (by first | omega | (simp <;> omega)), (by first | omega | (simp <;> omega)), by repeat' (first | with_reducible exact Below.refl _ _ | with_reducible assumption | with_reducible refine Below.drew ?_ | with_reducible refine Below.drewN ?_ _ | with_reducible refine Below.alloc ?_ ?_ _ | with_reducible refine Below.setCell ?_ ?_ _ | with_reducible refine Below.setRow ?_ ?_ _ | with_reducible refine below_step (by assumption) ?_ ?_ | (show (_ : Nat) ≤ _; first | omega | (simp <;> omega))), by (go_simp <;> (intros; omega)), by (go_simp <;> (intros; omega)), by (go_simp <;> (intros; omega))⟩)
  case rest =>
    obtain ⟨g, h, rfl, rfl, rfl, hg1, hh1, hgs, hhs, hg2, hh2, hb0, hr0, hr1, hr2⟩ := hcut
    go_upto_region 2 with fail
    go_cut [12, 13, 14] (fun s8 s9 s10 wy => TwoL w wy c (brush a b d wt sh) #[.int .i8 x, .int .i8 y] e (brush a1 b1 d1 wt1 sh1) z s8 s9 s10 ∧ rowOf wy g = kc sk 266 e ∧ rowOf wy h = brush a1 b1 d1 wt1 sh1 ∧ g < wy.heap.size ∧ h < wy.heap.size)
    case first =>
      go_region_held3 (fun w' => rowOf w' w.heap.size = kc sk 266 c ∧ rowOf w' (w.heap.size + 1) = brush a b d wt sh ∧ rowOf w' (w.heap.size + 1 + 1) = #[.int .i8 x, .int .i8 y]) (go_simp) (first | (go_at_call 20; refine (toSheet_any _ _).mono ?_; rintro e w1 ⟨rfl, hb1⟩; have r1 := keep_rowA hb1; have f1 := keep_frA hb1; have s1 := hb1.size; (try simp only [World.size_alloc, World.size_setCell, setRow_size, World.size_drew, size_drewNm] at r1 f1 s1)) | (go_at_call 16; refine (toBrush_any _ _ _ _ _ _).mono ?_; rintro e w1 ⟨rfl, hb1⟩; have r1 := keep_rowA hb1; have f1 := keep_frA hb1; have s1 := hb1.size; (try simp only [World.size_alloc, World.size_setCell, setRow_size, World.size_drew, size_drewNm] at r1 f1 s1)) | (go_at_call 21; refine (toSpot_any _ _ _).mono ?_; rintro e w1 ⟨rfl, hb1⟩; have r1 := keep_rowA hb1; have f1 := keep_frA hb1; have s1 := hb1.size; (try simp only [World.size_alloc, World.size_setCell, setRow_size, World.size_drew, size_drewNm] at r1 f1 s1)) | (go_at_call 22; refine (HI.out _).mono ?_; rintro e w1 ⟨rfl, hb1⟩; have r1 := keep_rowA hb1; have f1 := keep_frA hb1; have s1 := hb1.size; (try simp only [World.size_alloc, World.size_setCell, setRow_size, World.size_drew, size_drewNm] at r1 f1 s1)))
      all_goals (go_wp2_with fail; go_meet; exact ⟨⟨_, _, rfl, rfl, rfl, by (go_simp <;> (intros; omega)), by (go_simp <;> (intros; omega)), (by first | omega | (simp <;> omega)), (by first | omega | (simp <;> omega)), (by first | omega | (simp <;> omega)), (by first | omega | (simp <;> omega)), by repeat' (first | with_reducible exact Below.refl _ _ | with_reducible assumption | with_reducible refine Below.drew ?_ | with_reducible refine Below.drewN ?_ _ | with_reducible refine Below.alloc ?_ ?_ _ | with_reducible refine Below.setCell ?_ ?_ _ | with_reducible refine Below.setRow ?_ ?_ _ | with_reducible refine below_step (by assumption) ?_ ?_ | (show (_ : Nat) ≤ _; first | omega | (simp <;> omega))), by (go_simp <;> (intros; omega)), by (go_simp <;> (intros; omega)), by (go_simp <;> (intros; omega))⟩, by (go_simp <;> (intros; omega)), by (go_simp <;> (intros; omega)), (by first | omega | (simp <;> omega)), (by first | omega | (simp <;> omega))⟩)
    case rest =>
      obtain ⟨⟨g2, h2, rfl, rfl, rfl, hg3, hh3, hgs3, hhs3, hg4, hh4, hb4, hr4, hr5, hr6⟩, hg5, hh5, hgs5, hhs5⟩ := hcut
      go_wp2_with (first | (go_at_call 23; refine (eqSheet_same _ _).mono ?_; rintro e w1 ⟨rfl, hb1⟩; have r1 := keep_rowA hb1; have f1 := keep_frA hb1; have s1 := hb1.size; (try simp only [World.size_alloc, World.size_setCell, setRow_size, World.size_drew, size_drewNm] at r1 f1 s1)) | (go_at_call 18; refine (eqBrush_same _ _ _ _ _ _).mono ?_; rintro e w1 ⟨rfl, hb1⟩; have r1 := keep_rowA hb1; have f1 := keep_frA hb1; have s1 := hb1.size; (try simp only [World.size_alloc, World.size_setCell, setRow_size, World.size_drew, size_drewNm] at r1 f1 s1)))
      go_ret
      exact ⟨rfl, by repeat' (first | with_reducible exact Below.refl _ _ | with_reducible assumption | with_reducible refine Below.drew ?_ | with_reducible refine Below.drewN ?_ _ | with_reducible refine Below.alloc ?_ ?_ _ | with_reducible refine Below.setCell ?_ ?_ _ | with_reducible refine Below.setRow ?_ ?_ _ | with_reducible refine below_step (by assumption) ?_ ?_ | (show (_ : Nat) ≤ _; first | omega | (simp <;> omega)))⟩
end Go.Proofs.Ytigiooollonmjaa
