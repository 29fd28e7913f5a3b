/- The walk of the statement FnExactPressOnce. -/
import Derived.Test.YtbnhhjjhjjmmjaaPressAI
import Derived.Test.YtbnhhjjhjjmmjaaEq
import Derived.Test.YtbnhhjjhjjmmjaaOpen
import Derived.Deep.RegionHeld3
import Derived.Deep.DeepCutAuto
namespace Go.Proofs.Ytbnhhjjhjjmmjaa
open Go.RowKit Go.ChangeShapes Go.WideShapes Go.ChangeAt
set_option linter.unusedVariables false
set_option linter.unusedSimpArgs false
set_option maxRecDepth 100000
/-- What a call of the statement leaves: a sheet in a block of its own, two numbers. -/
def OneS (w wx : World) (c : Nat → Int) (fl : Array Value) (e : Nat → Int) (m z : Int) (s5 s6 s7 : Value) : Prop := ∃ g : Nat, s5 = .pointer (some ⟨g, 0, none⟩) ∧ s6 = .int .i64 m ∧ s7 = .int .i64 z ∧ rowOf wx g = kc sk 266 e ∧ g < wx.heap.size ∧ w.heap.size + 2 ≤ g ∧ Below w.heap.size w wx ∧ rowOf wx w.heap.size = kc sk 266 c ∧ rowOf wx (w.heap.size + 1) = fl
set_option maxHeartbeats 40000000 in
theorem FnExactPressOnce_walk (c : Nat → Int) (hfc : FitSheet c) (a : Int) (d : Bool) (q : Int) (hf : (-128 ≤ a ∧ a ≤ 127) ∧ -128 ≤ q ∧ q ≤ 127) (w : World) : Calls Try.prog 4 #[.agg (kc sk 266 c), .agg #[.int .i8 a, .bool d, .int .i8 q]] w fun e w' => e = .returned (.bool true) ∧ Below w.heap.size w w' := by
  obtain ⟨e, m, z, E⟩ := paV_is c (fun _ => ⟨a, d, q⟩) 1
  have HS := Lib.hid (fun w => E ▸ sPressOnce_any c hfc ⟨a, d, q⟩ hf w)
  have HI := Lib.hid (fun w => E ▸ iPressOnce_any c hfc ⟨a, d, q⟩ hf w)
  simp only at HS HI
  clear E hfc hf
  go_enter Try.func4, Try.ntmps4
  go_upto_region 1 with fail
  go_cut [5, 6, 7] (fun s5 s6 s7 wx => OneS w wx c #[.int .i8 a, .bool d, .int .i8 q] e m z s5 s6 s7)
  case first =>
    go_region_held3 (fun w' => rowOf w' w.heap.size = kc sk 266 c ∧ rowOf w' (w.heap.size + 1) = #[.int .i8 a, .bool d, .int .i8 q]) (go_simp) (first | (go_at_call 15; refine (toSheet_any _ _).mono ?_; rintro e w1 ⟨rfl, hb1⟩; have r1 := keep_rowA hb1; have f1 := keep_frA hb1; have s1 := hb1.size; (try simp only [World.size_alloc, World.size_setCell, setRow_size, World.size_drew, size_drewNm] at r1 f1 s1)) | (go_at_call 16; refine (toFold_any _ _ _ _).mono ?_; rintro e w1 ⟨rfl, hb1⟩; have r1 := keep_rowA hb1; have f1 := keep_frA hb1; have s1 := hb1.size; (try simp only [World.size_alloc, World.size_setCell, setRow_size, World.size_drew, size_drewNm] at r1 f1 s1)) | (go_at_call 14; refine (HS.out _).mono ?_; rintro e w1 ⟨rfl, hb1⟩; have r1 := keep_rowA hb1; have f1 := keep_frA hb1; have s1 := hb1.size; (try simp only [World.size_alloc, World.size_setCell, setRow_size, World.size_drew, size_drewNm] at r1 f1 s1)))
    all_goals (go_wp2_with fail; go_meet; exact ⟨_, rfl, rfl, rfl, by (go_simp <;> (intros; omega)), (by first | omega | (simp <;> omega)), (by first | omega | (simp <;> omega)), by repeat' (first | with_reducible exact Below.refl _ _ | with_reducible assumption | with_reducible refine Below.drew ?_ | with_reducible refine Below.drewN ?_ _ | with_reducible refine Below.alloc ?_ ?_ _ | with_reducible refine Below.setCell ?_ ?_ _ | with_reducible refine Below.setRow ?_ ?_ _ | with_reducible refine below_step (by assumption) ?_ ?_ | (show (_ : Nat) ≤ _; first | omega | (simp <;> omega))), by (go_simp <;> (intros; omega)), by (go_simp <;> (intros; omega))⟩)
  case rest =>
    obtain ⟨g, rfl, rfl, rfl, hg1, hgs, hg2, hb0, hr0, hr1⟩ := hcut
    go_upto_region 2 with fail
    go_cut [8, 9, 10] (fun s5 s6 s7 wy => OneS w wy c #[.int .i8 a, .bool d, .int .i8 q] e m z s5 s6 s7 ∧ rowOf wy g = kc sk 266 e ∧ g < wy.heap.size)
    case first =>
      go_region_held3 (fun w' => rowOf w' w.heap.size = kc sk 266 c ∧ rowOf w' (w.heap.size + 1) = #[.int .i8 a, .bool d, .int .i8 q]) (go_simp) (first | (go_at_call 15; refine (toSheet_any _ _).mono ?_; rintro e w1 ⟨rfl, hb1⟩; have r1 := keep_rowA hb1; have f1 := keep_frA hb1; have s1 := hb1.size; (try simp only [World.size_alloc, World.size_setCell, setRow_size, World.size_drew, size_drewNm] at r1 f1 s1)) | (go_at_call 16; refine (toFold_any _ _ _ _).mono ?_; rintro e w1 ⟨rfl, hb1⟩; have r1 := keep_rowA hb1; have f1 := keep_frA hb1; have s1 := hb1.size; (try simp only [World.size_alloc, World.size_setCell, setRow_size, World.size_drew, size_drewNm] at r1 f1 s1)) | (go_at_call 17; refine (HI.out _).mono ?_; rintro e w1 ⟨rfl, hb1⟩; have r1 := keep_rowA hb1; have f1 := keep_frA hb1; have s1 := hb1.size; (try simp only [World.size_alloc, World.size_setCell, setRow_size, World.size_drew, size_drewNm] at r1 f1 s1)))
      all_goals (go_wp2_with fail; go_meet; exact ⟨⟨_, rfl, rfl, rfl, by (go_simp <;> (intros; omega)), (by first | omega | (simp <;> omega)), (by first | omega | (simp <;> omega)), by repeat' (first | with_reducible exact Below.refl _ _ | with_reducible assumption | with_reducible refine Below.drew ?_ | with_reducible refine Below.drewN ?_ _ | with_reducible refine Below.alloc ?_ ?_ _ | with_reducible refine Below.setCell ?_ ?_ _ | with_reducible refine Below.setRow ?_ ?_ _ | with_reducible refine below_step (by assumption) ?_ ?_ | (show (_ : Nat) ≤ _; first | omega | (simp <;> omega))), by (go_simp <;> (intros; omega)), by (go_simp <;> (intros; omega))⟩, by (go_simp <;> (intros; omega)), (by first | omega | (simp <;> omega))⟩)
    case rest =>
      obtain ⟨⟨g2, rfl, rfl, rfl, hg3, hgs3, hg4, hb4, hr4, hr5⟩, hg5, hgs5⟩ := hcut
      go_wp2_with ((go_at_call 18; refine (eqSheet_same _ _).mono ?_; rintro e w1 ⟨rfl, hb1⟩; have r1 := keep_rowA hb1; have f1 := keep_frA hb1; have s1 := hb1.size; (try simp only [World.size_alloc, World.size_setCell, setRow_size, World.size_drew, size_drewNm] at r1 f1 s1)))
      go_ret
      exact ⟨rfl, by repeat' (first | with_reducible exact Below.refl _ _ | with_reducible assumption | with_reducible refine Below.drew ?_ | with_reducible refine Below.drewN ?_ _ | with_reducible refine Below.alloc ?_ ?_ _ | with_reducible refine Below.setCell ?_ ?_ _ | with_reducible refine Below.setRow ?_ ?_ _ | with_reducible refine below_step (by assumption) ?_ ?_ | (show (_ : Nat) ≤ _; first | omega | (simp <;> omega)))⟩
end Go.Proofs.Ytbnhhjjhjjmmjaa
