/- The walk of the statement FnExactBlotOnto. Written by gen_blot.py. -/
import Derived.Test.YtfcffihenmjafaaBlotOS
import Derived.Test.YtfcffihenmjafaaBlotOI
import Derived.Test.YtfcffihenmjafaaEq
import Derived.Test.YtfcffihenmjafaaOpen
import Derived.Deep.RegionHeld3
import Derived.Deep.DeepCutAuto
namespace Go.Proofs.Ytfcffihenmjafaa
open Go.RowKit Go.ChangeShapes Go.WideShapes Go.ChangeAt
set_option linter.unusedVariables false
set_option linter.unusedSimpArgs false
set_option maxRecDepth 100000
/-- What the statement's two calls leave: two sheets in blocks of its own. -/
def TwoS (w wx : World) (c d e1 e2 : Nat → Int) (m z : Int) (s5 s6 s7 s8 : Value) : Prop := ∃ g h : Nat, s5 = .pointer (some ⟨g, 0, none⟩) ∧ s6 = .pointer (some ⟨h, 0, none⟩) ∧ s7 = .int .i64 m ∧ s8 = .int .i64 z ∧ rowOf wx g = kc sk 266 e1 ∧ rowOf wx h = kc sk 266 e2 ∧ g < wx.heap.size ∧ h < wx.heap.size ∧ w.heap.size + 2 ≤ g ∧ w.heap.size + 2 ≤ h ∧ Below w.heap.size w wx ∧ rowOf wx w.heap.size = kc sk 266 c ∧ rowOf wx (w.heap.size + 1) = kc sk 266 d
set_option maxHeartbeats 40000000 in
theorem FnExactBlotOnto_walk (c : Nat → Int) (hc : FitSheet c) (d : Nat → Int) (hd : FitSheet d) (p : Int) (hp : -9223372036854775808 ≤ p ∧ p ≤ 9223372036854775807) (w : World) : Calls Try.prog 6 #[.agg (kc sk 266 c), .agg (kc sk 266 d), .int .i64 p] w fun e w' => e = .returned (.bool true) ∧ Below w.heap.size w w' := by
  obtain ⟨e1, e2, m, z, E⟩ := blotV_is c d p 1
  have HS := Lib.hid (fun w => E ▸ sBlotOnto_any c d hc hd p w)
  have HI := Lib.hid (fun w => E ▸ iBlotOnto_any c d hc hd p w)
  clear E hc hd hp
  go_enter Try.func6, Try.ntmps6
  go_upto_region 1 with fail
  go_cut [7, 8, 9, 10] (fun s5 s6 s7 s8 wx => TwoS w wx c d e1 e2 m z s5 s6 s7 s8)
  case first =>
    go_region_held3 (fun w' => rowOf w' w.heap.size = kc sk 266 c ∧ rowOf w' (w.heap.size + 1) = kc sk 266 d) (go_simp) (first | (go_at_call 13; refine (toSheet_any _ _).mono ?_; rintro e w1 ⟨rfl, hb1⟩; have r1 := keep_rowA hb1; have f1 := keep_frA hb1; have s1 := hb1.size; (try simp only [World.size_alloc, World.size_setCell, setRow_size, World.size_drew, size_drewNm] at r1 f1 s1)) | (go_at_call 26; refine (HS.out _).mono ?_; rintro e w1 ⟨rfl, hb1⟩; have r1 := keep_rowA hb1; have f1 := keep_frA hb1; have s1 := hb1.size; (try simp only [World.size_alloc, World.size_setCell, setRow_size, World.size_drew, size_drewNm] at r1 f1 s1)))
    all_goals (go_wp2_with fail; go_meet; exact ⟨_, _, rfl, rfl, rfl, rfl, by (go_simp <;> (intros; omega)), by (go_simp <;> (intros; omega)), (by first | omega | (simp <;> omega)), (by first | omega | (simp <;> omega)), (by first | omega | (simp <;> omega)), (by first | omega | (simp <;> omega)), by repeat' (first | with_reducible exact Below.refl _ _ | with_reducible assumption | with_reducible refine Below.drew ?_ | with_reducible refine Below.drewN ?_ _ | with_reducible refine Below.alloc ?_ ?_ _ | with_reducible refine Below.setCell ?_ ?_ _ | with_reducible refine Below.setRow ?_ ?_ _ | with_reducible refine below_step (by assumption) ?_ ?_ | (show (_ : Nat) ≤ _; first | omega | (simp <;> omega))), by (go_simp <;> (intros; omega)), by (go_simp <;> (intros; omega))⟩)
  case rest =>
    obtain ⟨g, h, rfl, rfl, rfl, rfl, hg1, hh1, hgs, hhs, hg2, hh2, hb0, hr0, hr1⟩ := hcut
    go_upto_region 2 with fail
    go_cut [11, 12, 13, 14] (fun s5 s6 s7 s8 wy => TwoS w wy c d e1 e2 m z s5 s6 s7 s8 ∧ rowOf wy g = kc sk 266 e1 ∧ rowOf wy h = kc sk 266 e2 ∧ g < wy.heap.size ∧ h < wy.heap.size)
    case first =>
      go_region_held3 (fun w' => rowOf w' w.heap.size = kc sk 266 c ∧ rowOf w' (w.heap.size + 1) = kc sk 266 d) (go_simp) (first | (go_at_call 13; refine (toSheet_any _ _).mono ?_; rintro e w1 ⟨rfl, hb1⟩; have r1 := keep_rowA hb1; have f1 := keep_frA hb1; have s1 := hb1.size; (try simp only [World.size_alloc, World.size_setCell, setRow_size, World.size_drew, size_drewNm] at r1 f1 s1)) | (go_at_call 27; refine (HI.out _).mono ?_; rintro e w1 ⟨rfl, hb1⟩; have r1 := keep_rowA hb1; have f1 := keep_frA hb1; have s1 := hb1.size; (try simp only [World.size_alloc, World.size_setCell, setRow_size, World.size_drew, size_drewNm] at r1 f1 s1)))
      all_goals (go_wp2_with fail; go_meet; exact ⟨⟨_, _, rfl, rfl, rfl, rfl, by (go_simp <;> (intros; omega)), by (go_simp <;> (intros; omega)), (by first | omega | (simp <;> omega)), (by first | omega | (simp <;> omega)), (by first | omega | (simp <;> omega)), (by first | omega | (simp <;> omega)), by repeat' (first | with_reducible exact Below.refl _ _ | with_reducible assumption | with_reducible refine Below.drew ?_ | with_reducible refine Below.drewN ?_ _ | with_reducible refine Below.alloc ?_ ?_ _ | with_reducible refine Below.setCell ?_ ?_ _ | with_reducible refine Below.setRow ?_ ?_ _ | with_reducible refine below_step (by assumption) ?_ ?_ | (show (_ : Nat) ≤ _; first | omega | (simp <;> omega))), by (go_simp <;> (intros; omega)), by (go_simp <;> (intros; omega))⟩, by (go_simp <;> (intros; omega)), by (go_simp <;> (intros; omega)), (by first | omega | (simp <;> omega)), (by first | omega | (simp <;> omega))⟩)
    case rest =>
      obtain ⟨⟨g2, h2, rfl, rfl, rfl, rfl, hg3, hh3, hgs3, hhs3, hg4, hh4, hb4, hr4, hr5⟩, hg5, hh5, hgs5, hhs5⟩ := hcut
      go_wp2_with ((go_at_call 28; refine (eqSheet_same _ _).mono ?_; rintro e w1 ⟨rfl, hb1⟩; have r1 := keep_rowA hb1; have f1 := keep_frA hb1; have s1 := hb1.size; (try simp only [World.size_alloc, World.size_setCell, setRow_size, World.size_drew, size_drewNm] at r1 f1 s1)))
      go_ret
      exact ⟨rfl, by repeat' (first | with_reducible exact Below.refl _ _ | with_reducible assumption | with_reducible refine Below.drew ?_ | with_reducible refine Below.drewN ?_ _ | with_reducible refine Below.alloc ?_ ?_ _ | with_reducible refine Below.setCell ?_ ?_ _ | with_reducible refine Below.setRow ?_ ?_ _ | with_reducible refine below_step (by assumption) ?_ ?_ | (show (_ : Nat) ≤ _; first | omega | (simp <;> omega)))⟩
end Go.Proofs.Ytfcffihenmjafaa
