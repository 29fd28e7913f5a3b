/- Whether two spots share a side: both. -/
import Derived.Test.YtbnhhjjhjjmmjaaDoorSlS
import Derived.Test.YtbnhhjjhjjmmjaaDoorAskBase
import Derived.BigQuiet
import Derived.Deep.RegionHeld3
namespace Go.Proofs.YtbnhhjjhjjmmjaaDoor
open Go.RowKit
set_option linter.unusedVariables false
set_option linter.unusedSimpArgs false
set_option maxRecDepth 100000
abbrev w8 (n : Int) : Int := IntKind.i8.wrap n
abbrev spotV (x y : Int) : Value := .agg #[.int .i8 x, .int .i8 y]
/-- The spot beyond a side. -/
def nx (k : Nat) (x y : Int) : Int × Int := match k with
  | 0 => (x, IntKind.i8.wrap (y - 1))
  | 1 => (IntKind.i8.wrap (x + 1), y)
  | 2 => (x, IntKind.i8.wrap (y + 1))
  | _ => (IntKind.i8.wrap (x - 1), y)
def sameP (p : Int × Int) (u v : Int) : Bool := decide (p.1 = u) && decide (p.2 = v)
def stepB (x y u v : Int) : Bool := sameP (nx 0 x y) u v || sameP (nx 1 x y) u v || sameP (nx 2 x y) u v || sameP (nx 3 x y) u v
theorem step_yes {k : Nat} (hk : k < 4) {x y u v : Int} (h : sameP (nx k x y) u v = true) : stepB x y u v = true := by
  unfold stepB
  rcases (show k = 0 ∨ k = 1 ∨ k = 2 ∨ k = 3 by omega) with rfl | rfl | rfl | rfl <;> simp [h]
theorem step_no {x y u v : Int} (h : ∀ j, j < 4 → sameP (nx j x y) u v = false) : stepB x y u v = false := by
  unfold stepB
  rw [h 0 (by omega), h 1 (by omega), h 2 (by omega), h 3 (by omega)]; rfl
theorem any4 {P : Nat → Int × Int} {k : Nat} (hk : k < 4) {u v : Int} (h : sameP (P k) u v = true) : (sameP (P 0) u v || sameP (P 1) u v || sameP (P 2) u v || sameP (P 3) u v) = true := by
  rcases (show k = 0 ∨ k = 1 ∨ k = 2 ∨ k = 3 by omega) with rfl | rfl | rfl | rfl <;> simp [h]
theorem none4 {P : Nat → Int × Int} {u v : Int} (h : ∀ j, j < 4 → sameP (P j) u v = false) : (sameP (P 0) u v || sameP (P 1) u v || sameP (P 2) u v || sameP (P 3) u v) = false := by
  rw [h 0 (by omega), h 1 (by omega), h 2 (by omega), h 3 (by omega)]; rfl
theorem l01Next_any (k : Nat) (hk : k < 4) (x y : Int) (hx : -128 ≤ x ∧ x ≤ 127) (hy : -128 ≤ y ∧ y ≤ 127) (w : World) : Calls Tryd.prog 77 #[spotV x y, .int .i64 (k : Int)] w fun e w' => e = .returned (spotV (nx k x y).1 (nx k x y).2) ∧ Below w.heap.size w w' := by
  rcases (show k = 0 ∨ k = 1 ∨ k = 2 ∨ k = 3 by omega) with rfl | rfl | rfl | rfl
  all_goals
    go_enter Tryd.func77, Tryd.ntmps77
    go_wp2
    exact bodyPost_ret (v := spotV _ _) (res_c rfl rfl (by go_simp; exact ⟨rfl, rfl⟩)) rfl ⟨rfl, by repeat' (first | with_reducible exact Below.refl _ _ | with_reducible assumption | with_reducible refine Below.drew ?_ | with_reducible refine Below.drewN ?_ _ | with_reducible refine Below.alloc ?_ ?_ _ | with_reducible refine Below.setCell ?_ ?_ _ | with_reducible refine Below.setRow ?_ ?_ _ | with_reducible refine below_step (by assumption) ?_ ?_ | (show (_ : Nat) ≤ _; first | omega | (simp <;> omega)))⟩
set_option maxHeartbeats 4000000 in
theorem l04Step_any (x y u v : Int) (hx : -128 ≤ x ∧ x ≤ 127) (hy : -128 ≤ y ∧ y ≤ 127) (w : World) : Calls Tryd.prog 92 #[spotV x y, spotV u v] w fun e w' => e = .returned (.bool (stepB x y u v)) ∧ Below w.heap.size w w' := by
  go_enter Tryd.func92, Tryd.ntmps92
  go_wp2
  go_loopw [5] (fun i wr => ∃ k : Nat, k ≤ 4 ∧ i = .int .i64 k ∧ Below w.heap.size w wr ∧ w.heap.size + 2 ≤ wr.heap.size ∧ rowOf wr w.heap.size = #[.int .i8 x, .int .i8 y] ∧ rowOf wr (w.heap.size + 1) = #[.int .i8 u, .int .i8 v] ∧ ∀ j, j < k → sameP (nx j x y) u v = false) (fun i wr => 5 - (intOf i).toNat)
  case atStart => exact ⟨0, by omega, rfl, by repeat' (first | with_reducible exact Below.refl _ _ | with_reducible assumption | with_reducible refine Below.drew ?_ | with_reducible refine Below.drewN ?_ _ | with_reducible refine Below.alloc ?_ ?_ _ | with_reducible refine Below.setCell ?_ ?_ _ | with_reducible refine Below.setRow ?_ ?_ _ | with_reducible refine below_step (by assumption) ?_ ?_ | (show (_ : Nat) ≤ _; first | omega | (simp <;> omega))), by simp, by (go_simp <;> (intros; omega)), by (go_simp <;> (intros; omega)), fun j h => absurd h (by omega)⟩
  case round =>
    obtain ⟨k, hk, rfl, hb, hsz, hr0, hr1, hno⟩ := hrel
    have HN := Lib.hid hno
    clear hno
    have hszw := hb.size
    by_cases hk4 : k < 4
    · have hd4 : decide ((k : Int) < 4) = true := decide_eq_true (by omega)
      have HX := Lib.hid (fun w => l01Next_any k hk4 x y hx hy w)
      rcases Bool.eq_false_or_eq_true (sameP (nx k x y) u v) with hs | hs
      · have HSB := Lib.hid (step_yes hk4 hs)
        generalize nx k x y = p at *
        obtain ⟨px, py⟩ := p
        have hs2 : px = u ∧ py = v := by simpa [sameP] using hs
        obtain ⟨rfl, rfl⟩ := hs2
        clear hs
        go_wp2
        go_region_held3 (fun w' => rowOf w' w.heap.size = #[.int .i8 x, .int .i8 y] ∧ rowOf w' (w.heap.size + 1) = #[.int .i8 px, .int .i8 py]) (go_simp) ((go_at_call 77; refine (HX.out _).mono ?_; rintro e w1 ⟨rfl, hb1⟩; have r1 := keep_rowA hb1; have f1 := keep_frA hb1; have s1 := hb1.size; (try simp only [World.size_alloc, World.size_setCell, setRow_size, World.size_drew, size_drewNm] at r1 f1 s1)))
        all_goals
          go_wp2
          go_ret
          exact ⟨by rw [HSB.out]; rfl, by repeat' (first | with_reducible exact Below.refl _ _ | with_reducible assumption | with_reducible refine Below.drew ?_ | with_reducible refine Below.drewN ?_ _ | with_reducible refine Below.alloc ?_ ?_ _ | with_reducible refine Below.setCell ?_ ?_ _ | with_reducible refine Below.setRow ?_ ?_ _ | with_reducible refine below_step (by assumption) ?_ ?_ | (show (_ : Nat) ≤ _; first | omega | (simp <;> omega)))⟩
      · have HS := Lib.hid hs
        generalize nx k x y = p at HX hs
        obtain ⟨px, py⟩ := p
        by_cases h1 : px = u
        · subst h1
          have h2 : ¬ py = v := by simpa [sameP] using hs
          have h2b : (py == v) = false := by simpa using h2
          have h2d : decide (py = v) = false := decide_eq_false h2
          clear hs h2
          go_wp2
          go_region_held3 (fun w' => rowOf w' w.heap.size = #[.int .i8 x, .int .i8 y] ∧ rowOf w' (w.heap.size + 1) = #[.int .i8 px, .int .i8 v]) (go_simp) ((go_at_call 77; refine (HX.out _).mono ?_; rintro e w1 ⟨rfl, hb1⟩; have r1 := keep_rowA hb1; have f1 := keep_frA hb1; have s1 := hb1.size; (try simp only [World.size_alloc, World.size_setCell, setRow_size, World.size_drew, size_drewNm] at r1 f1 s1)))
          all_goals
            go_wp2
            go_roundw
            case rel => first | exact ⟨k + 1, by omega, by go_num, by repeat' (first | with_reducible exact Below.refl _ _ | with_reducible assumption | with_reducible refine Below.drew ?_ | with_reducible refine Below.drewN ?_ _ | with_reducible refine Below.alloc ?_ ?_ _ | with_reducible refine Below.setCell ?_ ?_ _ | with_reducible refine Below.setRow ?_ ?_ _ | with_reducible refine below_step (by assumption) ?_ ?_ | (show (_ : Nat) ≤ _; first | omega | (simp <;> omega))), (by first | omega | (simp <;> omega)), by (go_simp <;> (intros; omega)), by (go_simp <;> (intros; omega)), fun j hj => by rcases Nat.lt_succ_iff_lt_or_eq.1 hj with h1 | rfl; exact HN.out j h1; exact HS.out⟩ | ((repeat (with_reducible apply Exists.intro)); refine And.intro ?_ ?_; rotate_left; (focus ((repeat' (with_reducible apply And.intro)) <;> rfl)); exact ⟨k + 1, by omega, by go_num, by repeat' (first | with_reducible exact Below.refl _ _ | with_reducible assumption | with_reducible refine Below.drew ?_ | with_reducible refine Below.drewN ?_ _ | with_reducible refine Below.alloc ?_ ?_ _ | with_reducible refine Below.setCell ?_ ?_ _ | with_reducible refine Below.setRow ?_ ?_ _ | with_reducible refine below_step (by assumption) ?_ ?_ | (show (_ : Nat) ≤ _; first | omega | (simp <;> omega))), (by first | omega | (simp <;> omega)), by (go_simp <;> (intros; omega)), by (go_simp <;> (intros; omega)), fun j hj => by rcases Nat.lt_succ_iff_lt_or_eq.1 hj with h1 | rfl; exact HN.out j h1; exact HS.out⟩)
            case measure => simp [intOf]; omega
        · have h2b : (px == u) = false := by simpa using h1
          have h2d : decide (px = u) = false := decide_eq_false h1
          clear hs h1
          go_wp2
          go_region_held3 (fun w' => rowOf w' w.heap.size = #[.int .i8 x, .int .i8 y] ∧ rowOf w' (w.heap.size + 1) = #[.int .i8 u, .int .i8 v]) (go_simp) ((go_at_call 77; refine (HX.out _).mono ?_; rintro e w1 ⟨rfl, hb1⟩; have r1 := keep_rowA hb1; have f1 := keep_frA hb1; have s1 := hb1.size; (try simp only [World.size_alloc, World.size_setCell, setRow_size, World.size_drew, size_drewNm] at r1 f1 s1)))
          all_goals
            go_wp2
            go_roundw
            case rel => first | exact ⟨k + 1, by omega, by go_num, by repeat' (first | with_reducible exact Below.refl _ _ | with_reducible assumption | with_reducible refine Below.drew ?_ | with_reducible refine Below.drewN ?_ _ | with_reducible refine Below.alloc ?_ ?_ _ | with_reducible refine Below.setCell ?_ ?_ _ | with_reducible refine Below.setRow ?_ ?_ _ | with_reducible refine below_step (by assumption) ?_ ?_ | (show (_ : Nat) ≤ _; first | omega | (simp <;> omega))), (by first | omega | (simp <;> omega)), by (go_simp <;> (intros; omega)), by (go_simp <;> (intros; omega)), fun j hj => by rcases Nat.lt_succ_iff_lt_or_eq.1 hj with h1 | rfl; exact HN.out j h1; exact HS.out⟩ | ((repeat (with_reducible apply Exists.intro)); refine And.intro ?_ ?_; rotate_left; (focus ((repeat' (with_reducible apply And.intro)) <;> rfl)); exact ⟨k + 1, by omega, by go_num, by repeat' (first | with_reducible exact Below.refl _ _ | with_reducible assumption | with_reducible refine Below.drew ?_ | with_reducible refine Below.drewN ?_ _ | with_reducible refine Below.alloc ?_ ?_ _ | with_reducible refine Below.setCell ?_ ?_ _ | with_reducible refine Below.setRow ?_ ?_ _ | with_reducible refine below_step (by assumption) ?_ ?_ | (show (_ : Nat) ≤ _; first | omega | (simp <;> omega))), (by first | omega | (simp <;> omega)), by (go_simp <;> (intros; omega)), by (go_simp <;> (intros; omega)), fun j hj => by rcases Nat.lt_succ_iff_lt_or_eq.1 hj with h1 | rfl; exact HN.out j h1; exact HS.out⟩)
            case measure => simp [intOf]; omega
    · have hke : k = 4 := by omega
      subst hke
      have HSB := Lib.hid (step_no HN.out)
      go_wp2
      go_ret
      exact ⟨by rw [HSB.out]; rfl, by repeat' (first | with_reducible exact Below.refl _ _ | with_reducible assumption | with_reducible refine Below.drew ?_ | with_reducible refine Below.drewN ?_ _ | with_reducible refine Below.alloc ?_ ?_ _ | with_reducible refine Below.setCell ?_ ?_ _ | with_reducible refine Below.setRow ?_ ?_ _ | with_reducible refine below_step (by assumption) ?_ ?_ | (show (_ : Nat) ≤ _; first | omega | (simp <;> omega)))⟩
theorem beside_any (x y : Int) (hx : -128 ≤ x ∧ x ≤ 127) (hy : -128 ≤ y ∧ y ≤ 127) (w : World) : Calls Tryd.prog 57 #[spotV x y] w fun e w' => ∃ g, e = .returned (.slice (some ⟨g, 0, none⟩) 4 4) ∧ w.heap.size ≤ g ∧ g < w'.heap.size ∧ rowOf w' g = #[.int .i8 (nx 0 x y).1, .int .i8 (nx 0 x y).2, .int .i8 (nx 1 x y).1, .int .i8 (nx 1 x y).2, .int .i8 (nx 2 x y).1, .int .i8 (nx 2 x y).2, .int .i8 (nx 3 x y).1, .int .i8 (nx 3 x y).2] ∧ Below w.heap.size w w' := by
  go_enter Tryd.func57, Tryd.ntmps57
  go_wp2
  go_ret
  exact ⟨_, rfl, (by first | omega | (simp <;> omega)), (by first | omega | (simp <;> omega)), by go_simp; exact ⟨rfl, rfl, rfl, rfl, rfl, rfl, rfl, rfl⟩, by repeat' (first | with_reducible exact Below.refl _ _ | with_reducible assumption | with_reducible refine Below.drew ?_ | with_reducible refine Below.drewN ?_ _ | with_reducible refine Below.alloc ?_ ?_ _ | with_reducible refine Below.setCell ?_ ?_ _ | with_reducible refine Below.setRow ?_ ?_ _ | with_reducible refine below_step (by assumption) ?_ ?_ | (show (_ : Nat) ≤ _; first | omega | (simp <;> omega)))⟩
set_option maxHeartbeats 4000000 in
theorem index_spots (g : Nat) (P : Nat → Int × Int) (u v : Int) (w : World) (hg : g < w.heap.size) (hr : ∀ j, j < 4 → (rowOf w g)[j * 2]? = some (.int .i8 (P j).1) ∧ (rowOf w g)[j * 2 + 1]? = some (.int .i8 (P j).2)) : Calls Tryd.prog 56 #[.slice (some ⟨g, 0, none⟩) 4 4, spotV u v] w fun e w' => ∃ k : Int, e = .returned (.int .i64 k) ∧ decide (0 ≤ k) = (sameP (P 0) u v || sameP (P 1) u v || sameP (P 2) u v || sameP (P 3) u v) ∧ -1 ≤ k ∧ k ≤ 4 ∧ Below w.heap.size w w' := by
  have HR := Lib.hid hr
  clear hr
  go_enter Tryd.func56, Tryd.ntmps56
  go_wp2
  go_loopw [8] (fun i wr => ∃ k : Nat, k ≤ 4 ∧ i = .int .i64 k ∧ Below w.heap.size w wr ∧ w.heap.size + 1 ≤ wr.heap.size ∧ rowOf wr w.heap.size = #[.int .i8 u, .int .i8 v] ∧ ∀ j, j < k → sameP (P j) u v = false) (fun i wr => 5 - (intOf i).toNat)
  case atStart => exact ⟨0, by omega, rfl, by repeat' (first | with_reducible exact Below.refl _ _ | with_reducible assumption | with_reducible refine Below.drew ?_ | with_reducible refine Below.drewN ?_ _ | with_reducible refine Below.alloc ?_ ?_ _ | with_reducible refine Below.setCell ?_ ?_ _ | with_reducible refine Below.setRow ?_ ?_ _ | with_reducible refine below_step (by assumption) ?_ ?_ | (show (_ : Nat) ≤ _; first | omega | (simp <;> omega))), by simp, by (go_simp <;> (intros; omega)), fun j h => absurd h (by omega)⟩
  case round =>
    obtain ⟨k, hk, rfl, hb, hsz, hr0, hno⟩ := hrel
    have HN := Lib.hid hno
    clear hno
    have hrow := keep_row hb hg
    have hgw : g < wr.heap.size := Nat.lt_of_lt_of_le hg hb.size
    by_cases hk4 : k < 4
    · have hd4 : decide ((k : Int) < 4) = true := decide_eq_true (by omega)
      obtain ⟨e1, e2⟩ := HR.out k hk4
      rw [← hrow] at e1 e2
      clear hrow
      rcases Bool.eq_false_or_eq_true (sameP (P k) u v) with hs | hs
      · have HSB := Lib.hid (any4 hk4 hs)
        generalize P k = p at *
        obtain ⟨px, py⟩ := p
        have hs2 : px = u ∧ py = v := by simpa [sameP] using hs
        obtain ⟨rfl, rfl⟩ := hs2
        clear hs
        go_wp2
        go_quiet (fail)
        go_wp2
        go_ret
        exact ⟨k, rfl, by rw [HSB.out]; exact decide_eq_true (by omega), by omega, by omega, by repeat' (first | with_reducible exact Below.refl _ _ | with_reducible assumption | with_reducible refine Below.drew ?_ | with_reducible refine Below.drewN ?_ _ | with_reducible refine Below.alloc ?_ ?_ _ | with_reducible refine Below.setCell ?_ ?_ _ | with_reducible refine Below.setRow ?_ ?_ _ | with_reducible refine below_step (by assumption) ?_ ?_ | (show (_ : Nat) ≤ _; first | omega | (simp <;> omega)))⟩
      · have HS := Lib.hid hs
        generalize P k = p at e1 e2 hs
        obtain ⟨px, py⟩ := p
        by_cases h1 : px = u
        · subst h1
          have h2 : ¬ py = v := by simpa [sameP] using hs
          have h2b : (py == v) = false := by simpa using h2
          have h2c : (v == py) = false := by simpa using fun h => h2 h.symm
          clear hs h2
          go_wp2
          go_quiet (fail)
          go_wp2
          go_roundw
          case rel => first | exact ⟨k + 1, by omega, by go_num, by repeat' (first | with_reducible exact Below.refl _ _ | with_reducible assumption | with_reducible refine Below.drew ?_ | with_reducible refine Below.drewN ?_ _ | with_reducible refine Below.alloc ?_ ?_ _ | with_reducible refine Below.setCell ?_ ?_ _ | with_reducible refine Below.setRow ?_ ?_ _ | with_reducible refine below_step (by assumption) ?_ ?_ | (show (_ : Nat) ≤ _; first | omega | (simp <;> omega))), (by first | omega | (simp <;> omega)), by (go_simp <;> (intros; omega)), fun j hj => by rcases Nat.lt_succ_iff_lt_or_eq.1 hj with h1 | rfl; exact HN.out j h1; exact HS.out⟩ | ((repeat (with_reducible apply Exists.intro)); refine And.intro ?_ ?_; rotate_left; (focus ((repeat' (with_reducible apply And.intro)) <;> rfl)); exact ⟨k + 1, by omega, by go_num, by repeat' (first | with_reducible exact Below.refl _ _ | with_reducible assumption | with_reducible refine Below.drew ?_ | with_reducible refine Below.drewN ?_ _ | with_reducible refine Below.alloc ?_ ?_ _ | with_reducible refine Below.setCell ?_ ?_ _ | with_reducible refine Below.setRow ?_ ?_ _ | with_reducible refine below_step (by assumption) ?_ ?_ | (show (_ : Nat) ≤ _; first | omega | (simp <;> omega))), (by first | omega | (simp <;> omega)), by (go_simp <;> (intros; omega)), fun j hj => by rcases Nat.lt_succ_iff_lt_or_eq.1 hj with h1 | rfl; exact HN.out j h1; exact HS.out⟩)
          case measure => simp [intOf]; omega
        · have h2b : (px == u) = false := by simpa using h1
          have h2c : (u == px) = false := by simpa using fun h => h1 h.symm
          clear hs h1
          go_wp2
          go_quiet (fail)
          go_wp2
          go_roundw
          case rel => first | exact ⟨k + 1, by omega, by go_num, by repeat' (first | with_reducible exact Below.refl _ _ | with_reducible assumption | with_reducible refine Below.drew ?_ | with_reducible refine Below.drewN ?_ _ | with_reducible refine Below.alloc ?_ ?_ _ | with_reducible refine Below.setCell ?_ ?_ _ | with_reducible refine Below.setRow ?_ ?_ _ | with_reducible refine below_step (by assumption) ?_ ?_ | (show (_ : Nat) ≤ _; first | omega | (simp <;> omega))), (by first | omega | (simp <;> omega)), by (go_simp <;> (intros; omega)), fun j hj => by rcases Nat.lt_succ_iff_lt_or_eq.1 hj with h1 | rfl; exact HN.out j h1; exact HS.out⟩ | ((repeat (with_reducible apply Exists.intro)); refine And.intro ?_ ?_; rotate_left; (focus ((repeat' (with_reducible apply And.intro)) <;> rfl)); exact ⟨k + 1, by omega, by go_num, by repeat' (first | with_reducible exact Below.refl _ _ | with_reducible assumption | with_reducible refine Below.drew ?_ | with_reducible refine Below.drewN ?_ _ | with_reducible refine Below.alloc ?_ ?_ _ | with_reducible refine Below.setCell ?_ ?_ _ | with_reducible refine Below.setRow ?_ ?_ _ | with_reducible refine below_step (by assumption) ?_ ?_ | (show (_ : Nat) ≤ _; first | omega | (simp <;> omega))), (by first | omega | (simp <;> omega)), by (go_simp <;> (intros; omega)), fun j hj => by rcases Nat.lt_succ_iff_lt_or_eq.1 hj with h1 | rfl; exact HN.out j h1; exact HS.out⟩)
          case measure => simp [intOf]; omega
    · have hke : k = 4 := by omega
      subst hke
      clear hrow
      have HSB := Lib.hid (none4 HN.out)
      go_wp2
      go_ret
      exact ⟨-1, rfl, by rw [HSB.out]; rfl, by omega, by omega, by repeat' (first | with_reducible exact Below.refl _ _ | with_reducible assumption | with_reducible refine Below.drew ?_ | with_reducible refine Below.drewN ?_ _ | with_reducible refine Below.alloc ?_ ?_ _ | with_reducible refine Below.setCell ?_ ?_ _ | with_reducible refine Below.setRow ?_ ?_ _ | with_reducible refine below_step (by assumption) ?_ ?_ | (show (_ : Nat) ≤ _; first | omega | (simp <;> omega)))⟩
theorem contains_spots (g : Nat) (P : Nat → Int × Int) (u v : Int) (w : World) (hg : g < w.heap.size) (hr : ∀ j, j < 4 → (rowOf w g)[j * 2]? = some (.int .i8 (P j).1) ∧ (rowOf w g)[j * 2 + 1]? = some (.int .i8 (P j).2)) : Calls Tryd.prog 119 #[.slice (some ⟨g, 0, none⟩) 4 4, spotV u v] w fun e w' => e = .returned (.bool (sameP (P 0) u v || sameP (P 1) u v || sameP (P 2) u v || sameP (P 3) u v)) ∧ Below w.heap.size w w' := by
  have HR := Lib.hid hr
  clear hr
  generalize hb : (sameP (P 0) u v || sameP (P 1) u v || sameP (P 2) u v || sameP (P 3) u v) = b
  have HB := Lib.hid hb
  clear hb
  go_enter Tryd.func119, Tryd.ntmps119
  go_wp2_with (go_at_call 56; refine (index_spots g P u v _ (by first | omega | (simp <;> omega)) (fun j hj => by have := HR.out j hj; go_simp <;> first | exact this | omega)).mono ?_; rintro e w1 ⟨k, rfl, hk, hk1, hk2, hb1⟩; rw [HB.out] at hk)
  go_ret
  exact ⟨rfl, by repeat' (first | with_reducible exact Below.refl _ _ | with_reducible assumption | with_reducible refine Below.drew ?_ | with_reducible refine Below.drewN ?_ _ | with_reducible refine Below.alloc ?_ ?_ _ | with_reducible refine Below.setCell ?_ ?_ _ | with_reducible refine Below.setRow ?_ ?_ _ | with_reducible refine below_step (by assumption) ?_ ?_ | (show (_ : Nat) ≤ _; first | omega | (simp <;> omega)))⟩
set_option maxHeartbeats 2000000 in
theorem isStep_any (x y u v : Int) (hx : -128 ≤ x ∧ x ≤ 127) (hy : -128 ≤ y ∧ y ≤ 127) (w : World) : Calls Tryd.prog 93 #[spotV x y, spotV u v] w fun e w' => e = .returned (.bool (stepB x y u v)) ∧ Below w.heap.size w w' := by
  have HX := Lib.hid (fun w => beside_any x y hx hy w)
  have HC := Lib.hid (fun g w hg hr => contains_spots g (fun j => nx j x y) u v w hg hr)
  have HB := Lib.hid (show (sameP (nx 0 x y) u v || sameP (nx 1 x y) u v || sameP (nx 2 x y) u v || sameP (nx 3 x y) u v) = stepB x y u v from rfl)
  go_enter Tryd.func93, Tryd.ntmps93
  go_wp2
  go_region_held3 (fun w' => rowOf w' w.heap.size = #[.int .i8 x, .int .i8 y] ∧ rowOf w' (w.heap.size + 1) = #[.int .i8 u, .int .i8 v]) (go_simp) (first | (go_at_call 57; refine (HX.out _).mono ?_; rintro e w1 ⟨g, rfl, hg1, hg2, hrow, hb1⟩; have r_hb1 := keep_rowA hb1; have f_hb1 := keep_frA hb1; have s_hb1 := hb1.size; (try simp only [World.size_alloc, World.size_setCell, setRow_size, World.size_drew, size_drewNm] at r_hb1 f_hb1 s_hb1)) | (go_at_call 119; refine (HC.out _ _ (by first | omega | (simp <;> omega)) (fun j hj => by rcases (show j = 0 ∨ j = 1 ∨ j = 2 ∨ j = 3 by omega) with rfl | rfl | rfl | rfl <;> (rw [hrow]; exact ⟨rfl, rfl⟩))).mono ?_; rintro e w2 ⟨rfl, hb2⟩; have r_hb2 := keep_rowA hb2; have f_hb2 := keep_frA hb2; have s_hb2 := hb2.size; (try simp only [World.size_alloc, World.size_setCell, setRow_size, World.size_drew, size_drewNm] at r_hb2 f_hb2 s_hb2)))
  all_goals
    go_wp2
    go_ret
    exact ⟨rfl, by repeat' (first | with_reducible exact Below.refl _ _ | with_reducible assumption | with_reducible refine Below.drew ?_ | with_reducible refine Below.drewN ?_ _ | with_reducible refine Below.alloc ?_ ?_ _ | with_reducible refine Below.setCell ?_ ?_ _ | with_reducible refine Below.setRow ?_ ?_ _ | with_reducible refine below_step (by assumption) ?_ ?_ | (show (_ : Nat) ≤ _; first | omega | (simp <;> omega)))⟩
end Go.Proofs.YtbnhhjjhjjmmjaaDoor
