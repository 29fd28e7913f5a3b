/- Slices of spots: the statements' own comparing, marking and looking up. -/
import Derived.Test.YtbnhhjjhjjmmjaaDoorSlI
import Derived.StillTailTactics
namespace Go.Proofs.YtbnhhjjhjjmmjaaDoor
open Go.RowKit
set_option linter.unusedVariables false
set_option linter.unusedSimpArgs false
set_option maxRecDepth 100000
/-- The marks' numbers. -/
def mS (k0 : Int) (j : Nat) : Int := IntKind.i8.wrap (k0 + (j : Int))
theorem eqSpot_same (x y : Int) (w : World) : Calls Tryd.prog 58 #[.agg #[.int .i8 x, .int .i8 y], .agg #[.int .i8 x, .int .i8 y]] w fun e w' => e = .returned (.bool true) ∧ Below w.heap.size w w' := by
  go_enter Tryd.func58, Tryd.ntmps58
  go_wp2
  go_ret
  exact ⟨rfl, by repeat' (first | with_reducible exact Below.refl _ _ | with_reducible assumption | with_reducible refine Below.drew ?_ | with_reducible refine Below.drewN ?_ _ | with_reducible refine Below.alloc ?_ ?_ _ | with_reducible refine Below.setCell ?_ ?_ _ | with_reducible refine Below.setRow ?_ ?_ _ | with_reducible refine below_step (by assumption) ?_ ?_ | (show (_ : Nat) ≤ _; first | omega | (simp <;> omega)))⟩
set_option maxHeartbeats 1000000 in
theorem eqSpotS_own (v1 v2 : Value) (n b1 b2 : Nat) (f : Nat → Int) (hn : n < 1099511627776) (w : World) (h1 : OwnK .i8 2 w b1 v1 n f) (h2 : OwnK .i8 2 w b2 v2 n f) :
    Calls Tryd.prog 20 #[v1, v2] w fun e w' => e = .returned (.bool true) ∧ Below w.heap.size w w' := by
  rcases Nat.eq_zero_or_pos n with hz | hp
  · subst hz
    obtain ⟨a1, c1, rfl⟩ := h1.len
    obtain ⟨a2, c2, rfl⟩ := h2.len
    clear h1 h2
    go_enter Tryd.func20, Tryd.ntmps20
    go_wp2
    go_loopw [5] (fun i wr => i = .int .i64 (0 : Nat) ∧ Below w.heap.size w wr) (fun i wr => 0)
    case atStart => exact ⟨rfl, by repeat' (first | with_reducible exact Below.refl _ _ | with_reducible assumption | with_reducible refine Below.drew ?_ | with_reducible refine Below.drewN ?_ _ | with_reducible refine Below.alloc ?_ ?_ _ | with_reducible refine Below.setCell ?_ ?_ _ | with_reducible refine Below.setRow ?_ ?_ _ | with_reducible refine below_step (by assumption) ?_ ?_ | (show (_ : Nat) ≤ _; first | omega | (simp <;> omega)))⟩
    case round =>
      obtain ⟨rfl, hb⟩ := hrel
      go_wp2
      go_ret
      exact ⟨rfl, by repeat' (first | with_reducible exact Below.refl _ _ | with_reducible assumption | with_reducible refine Below.drew ?_ | with_reducible refine Below.drewN ?_ _ | with_reducible refine Below.alloc ?_ ?_ _ | with_reducible refine Below.setCell ?_ ?_ _ | with_reducible refine Below.setRow ?_ ?_ _ | with_reducible refine below_step (by assumption) ?_ ?_ | (show (_ : Nat) ≤ _; first | omega | (simp <;> omega)))⟩
  · obtain ⟨g1, c1, rfl, -, hg1, -, -, ht1⟩ := h1.pos hp
    obtain ⟨g2, c2, rfl, -, hg2, -, -, ht2⟩ := h2.pos hp
    have HX := Lib.hid (fun j (hj : j < n) => And.intro (And.intro (ht1 (j * 2) (by omega)) (ht1 (j * 2 + 1) (by omega))) (And.intro (ht2 (j * 2) (by omega)) (ht2 (j * 2 + 1) (by omega))))
    clear h1 h2 ht1 ht2
    go_enter Tryd.func20, Tryd.ntmps20
    go_wp2
    go_loopw [5] (fun i wr => ∃ k : Nat, k ≤ n ∧ i = .int .i64 k ∧ Below w.heap.size w wr) (fun i wr => n - (intOf i).toNat)
    case atStart => exact ⟨0, by omega, rfl, by repeat' (first | with_reducible exact Below.refl _ _ | with_reducible assumption | with_reducible refine Below.drew ?_ | with_reducible refine Below.drewN ?_ _ | with_reducible refine Below.alloc ?_ ?_ _ | with_reducible refine Below.setCell ?_ ?_ _ | with_reducible refine Below.setRow ?_ ?_ _ | with_reducible refine below_step (by assumption) ?_ ?_ | (show (_ : Nat) ≤ _; first | omega | (simp <;> omega)))⟩
    case round =>
      obtain ⟨k, hk, rfl, hb⟩ := hrel
      have hr1 := keep_row hb hg1
      have hr2 := keep_row hb hg2
      have hw1 : g1 < wr.heap.size := Nat.lt_of_lt_of_le hg1 hb.size
      have hw2 : g2 < wr.heap.size := Nat.lt_of_lt_of_le hg2 hb.size
      have hsz := hb.size
      by_cases hlt : k < n
      · obtain ⟨⟨e1, e2⟩, e3, e4⟩ := HX.out k hlt
        rw [← hr1] at e1 e2
        rw [← hr2] at e3 e4
        clear hr1 hr2
        go_wp2
        go_still_tail 8, (by kernel_rfl)
        change wpList _ _ _ _ _ (World.drew _)
        go_wp2_with ((go_at_call 58; refine (eqSpot_same _ _ _).mono ?_; rintro e w1 ⟨rfl, hb1⟩; have r1 := keep_rowA hb1; have f1 := keep_frA hb1; have s1 := hb1.size; (try simp only [World.size_alloc, World.size_setCell, setRow_size, World.size_drew, size_drewNm] at r1 f1 s1)))
        go_roundw
        case rel => first | exact ⟨k + 1, by omega, by go_num, by repeat' (first | with_reducible exact Below.refl _ _ | with_reducible assumption | with_reducible refine Below.drew ?_ | with_reducible refine Below.drewN ?_ _ | with_reducible refine Below.alloc ?_ ?_ _ | with_reducible refine Below.setCell ?_ ?_ _ | with_reducible refine Below.setRow ?_ ?_ _ | with_reducible refine below_step (by assumption) ?_ ?_ | (show (_ : Nat) ≤ _; first | omega | (simp <;> omega)))⟩ | ((repeat (with_reducible apply Exists.intro)); refine And.intro ?_ ?_; rotate_left; (focus ((repeat' (with_reducible apply And.intro)) <;> rfl)); exact ⟨k + 1, by omega, by go_num, by repeat' (first | with_reducible exact Below.refl _ _ | with_reducible assumption | with_reducible refine Below.drew ?_ | with_reducible refine Below.drewN ?_ _ | with_reducible refine Below.alloc ?_ ?_ _ | with_reducible refine Below.setCell ?_ ?_ _ | with_reducible refine Below.setRow ?_ ?_ _ | with_reducible refine below_step (by assumption) ?_ ?_ | (show (_ : Nat) ≤ _; first | omega | (simp <;> omega)))⟩)
        case measure => simp [intOf]; omega
      · clear hr1 hr2
        go_wp2
        go_ret
        exact ⟨rfl, by repeat' (first | with_reducible exact Below.refl _ _ | with_reducible assumption | with_reducible refine Below.drew ?_ | with_reducible refine Below.drewN ?_ _ | with_reducible refine Below.alloc ?_ ?_ _ | with_reducible refine Below.setCell ?_ ?_ _ | with_reducible refine Below.setRow ?_ ?_ _ | with_reducible refine below_step (by assumption) ?_ ?_ | (show (_ : Nat) ≤ _; first | omega | (simp <;> omega)))⟩
set_option maxHeartbeats 2000000 in
theorem heldSpotS_own (v : Value) (n b : Nat) (k0 : Int) (hk0 : 0 ≤ k0 ∧ k0 ≤ 1099511627776) (hn : n < 1099511627776) (w : World) (h : OwnK .i8 2 w b v n (mS k0)) :
    Calls Tryd.prog 33 #[v, .int .i64 k0] w fun e w' => e = .returned (.int .i64 (k0 + ((n * 2 : Nat) : Int))) ∧ Below w.heap.size w w' := by
  rcases Nat.eq_zero_or_pos n with hz | hp
  · subst hz
    obtain ⟨a1, c1, rfl⟩ := h.len
    clear h
    go_enter Tryd.func33, Tryd.ntmps33
    go_wp2
    go_loopw [5, 1] (fun i s wr => i = .int .i64 (0 : Nat) ∧ s = .int .i64 k0 ∧ Below w.heap.size w wr) (fun i s wr => 0)
    case atStart => exact ⟨rfl, rfl, by repeat' (first | with_reducible exact Below.refl _ _ | with_reducible assumption | with_reducible refine Below.drew ?_ | with_reducible refine Below.drewN ?_ _ | with_reducible refine Below.alloc ?_ ?_ _ | with_reducible refine Below.setCell ?_ ?_ _ | with_reducible refine Below.setRow ?_ ?_ _ | with_reducible refine below_step (by assumption) ?_ ?_ | (show (_ : Nat) ≤ _; first | omega | (simp <;> omega)))⟩
    case round =>
      obtain ⟨rfl, rfl, hb⟩ := hrel
      go_wp2
      go_ret
      exact ⟨by simp, by repeat' (first | with_reducible exact Below.refl _ _ | with_reducible assumption | with_reducible refine Below.drew ?_ | with_reducible refine Below.drewN ?_ _ | with_reducible refine Below.alloc ?_ ?_ _ | with_reducible refine Below.setCell ?_ ?_ _ | with_reducible refine Below.setRow ?_ ?_ _ | with_reducible refine below_step (by assumption) ?_ ?_ | (show (_ : Nat) ≤ _; first | omega | (simp <;> omega)))⟩
  · obtain ⟨g, cap, rfl, -, hg, -, -, ht⟩ := h.pos hp
    have HX := Lib.hid ht
    clear h ht
    go_enter Tryd.func33, Tryd.ntmps33
    go_wp2
    go_loopw [5, 1] (fun i s wr => ∃ k : Nat, k ≤ n ∧ i = .int .i64 k ∧ s = .int .i64 (k0 + ((k * 2 : Nat) : Int)) ∧ Below w.heap.size w wr) (fun i s wr => n - (intOf i).toNat)
    case atStart => exact ⟨0, by omega, rfl, by simp, by repeat' (first | with_reducible exact Below.refl _ _ | with_reducible assumption | with_reducible refine Below.drew ?_ | with_reducible refine Below.drewN ?_ _ | with_reducible refine Below.alloc ?_ ?_ _ | with_reducible refine Below.setCell ?_ ?_ _ | with_reducible refine Below.setRow ?_ ?_ _ | with_reducible refine below_step (by assumption) ?_ ?_ | (show (_ : Nat) ≤ _; first | omega | (simp <;> omega)))⟩
    case round =>
      obtain ⟨k, hk, rfl, rfl, hb⟩ := hrel
      have hr1 := keep_row hb hg
      have hw1 : g < wr.heap.size := Nat.lt_of_lt_of_le hg hb.size
      by_cases hlt : k < n
      · have e1 := HX.out (k * 2) (by omega)
        have e2 := HX.out (k * 2 + 1) (by omega)
        rw [← hr1] at e1 e2
        rw [show mS k0 (k * 2) = IntKind.i8.wrap (k0 + (k : Int) * 2) from by unfold mS; congr 2] at e1
        rw [show mS k0 (k * 2 + 1) = IntKind.i8.wrap (k0 + (k : Int) * 2 + 1) from by unfold mS; congr 1; omega] at e2
        clear hr1
        go_wp2
        go_roundw
        case rel => first | exact ⟨k + 1, by omega, by go_num, by go_num, by repeat' (first | with_reducible exact Below.refl _ _ | with_reducible assumption | with_reducible refine Below.drew ?_ | with_reducible refine Below.drewN ?_ _ | with_reducible refine Below.alloc ?_ ?_ _ | with_reducible refine Below.setCell ?_ ?_ _ | with_reducible refine Below.setRow ?_ ?_ _ | with_reducible refine below_step (by assumption) ?_ ?_ | (show (_ : Nat) ≤ _; first | omega | (simp <;> omega)))⟩ | ((repeat (with_reducible apply Exists.intro)); refine And.intro ?_ ?_; rotate_left; (focus ((repeat' (with_reducible apply And.intro)) <;> rfl)); exact ⟨k + 1, by omega, by go_num, by go_num, by repeat' (first | with_reducible exact Below.refl _ _ | with_reducible assumption | with_reducible refine Below.drew ?_ | with_reducible refine Below.drewN ?_ _ | with_reducible refine Below.alloc ?_ ?_ _ | with_reducible refine Below.setCell ?_ ?_ _ | with_reducible refine Below.setRow ?_ ?_ _ | with_reducible refine below_step (by assumption) ?_ ?_ | (show (_ : Nat) ≤ _; first | omega | (simp <;> omega)))⟩)
        case measure => simp [intOf]; omega
      · have hke : k = n := by omega
        subst hke
        clear hr1
        go_wp2
        go_ret
        exact ⟨rfl, by repeat' (first | with_reducible exact Below.refl _ _ | with_reducible assumption | with_reducible refine Below.drew ?_ | with_reducible refine Below.drewN ?_ _ | with_reducible refine Below.alloc ?_ ?_ _ | with_reducible refine Below.setCell ?_ ?_ _ | with_reducible refine Below.setRow ?_ ?_ _ | with_reducible refine below_step (by assumption) ?_ ?_ | (show (_ : Nat) ≤ _; first | omega | (simp <;> omega)))⟩
set_option maxHeartbeats 2000000 in
theorem markSpotS_own (v : Value) (n b : Nat) (f : Nat → Int) (k0 : Int) (hk0 : 0 ≤ k0 ∧ k0 ≤ 1099511627776) (hn : n < 1099511627776) (w : World) (hbw : b ≤ w.heap.size) (h : OwnK .i8 2 w b v n f) :
    Calls Tryd.prog 32 #[v, .int .i64 k0] w fun e w' => e = .returned (.int .i64 (k0 + ((n * 2 : Nat) : Int))) ∧ Below b w w' ∧ OwnK .i8 2 w' b v n (mS k0) ∧ ∀ k s b2 v2 n2 f2, OwnK k s w b2 v2 n2 f2 → Apart v v2 → OwnK k s w' b2 v2 n2 f2 := by
  rcases Nat.eq_zero_or_pos n with hz | hp
  · subst hz
    obtain ⟨a1, c1, rfl⟩ := h.len
    have HH := Lib.hid h
    clear h
    go_enter Tryd.func32, Tryd.ntmps32
    go_wp2
    go_loopw [5, 1] (fun i s wr => i = .int .i64 (0 : Nat) ∧ s = .int .i64 k0 ∧ Below w.heap.size w wr) (fun i s wr => 0)
    case atStart => exact ⟨rfl, rfl, by repeat' (first | with_reducible exact Below.refl _ _ | with_reducible assumption | with_reducible refine Below.drew ?_ | with_reducible refine Below.drewN ?_ _ | with_reducible refine Below.alloc ?_ ?_ _ | with_reducible refine Below.setCell ?_ ?_ _ | with_reducible refine Below.setRow ?_ ?_ _ | with_reducible refine below_step (by assumption) ?_ ?_ | (show (_ : Nat) ≤ _; first | omega | (simp <;> omega)))⟩
    case round =>
      obtain ⟨rfl, rfl, hb⟩ := hrel
      go_wp2
      go_ret
      exact ⟨by simp, below_le (by repeat' (first | with_reducible exact Below.refl _ _ | with_reducible assumption | with_reducible refine Below.drew ?_ | with_reducible refine Below.drewN ?_ _ | with_reducible refine Below.alloc ?_ ?_ _ | with_reducible refine Below.setCell ?_ ?_ _ | with_reducible refine Below.setRow ?_ ?_ _ | with_reducible refine below_step (by assumption) ?_ ?_ | (show (_ : Nat) ≤ _; first | omega | (simp <;> omega)))) hbw, (HH.out.below (by repeat' (first | with_reducible exact Below.refl _ _ | with_reducible assumption | with_reducible refine Below.drew ?_ | with_reducible refine Below.drewN ?_ _ | with_reducible refine Below.alloc ?_ ?_ _ | with_reducible refine Below.setCell ?_ ?_ _ | with_reducible refine Below.setRow ?_ ?_ _ | with_reducible refine below_step (by assumption) ?_ ?_ | (show (_ : Nat) ≤ _; first | omega | (simp <;> omega)))) (Nat.le_refl _)).congr (fun j hj => absurd hj (by omega)), fun k s b2 v2 n2 f2 h _ => h.below (by repeat' (first | with_reducible exact Below.refl _ _ | with_reducible assumption | with_reducible refine Below.drew ?_ | with_reducible refine Below.drewN ?_ _ | with_reducible refine Below.alloc ?_ ?_ _ | with_reducible refine Below.setCell ?_ ?_ _ | with_reducible refine Below.setRow ?_ ?_ _ | with_reducible refine below_step (by assumption) ?_ ?_ | (show (_ : Nat) ≤ _; first | omega | (simp <;> omega)))) (Nat.le_refl _)⟩
  · obtain ⟨g, cap, rfl, hbg, hg, hfr, hsz, -⟩ := h.pos hp
    clear h
    go_enter Tryd.func32, Tryd.ntmps32
    go_wp2
    go_loopw [5, 1] (fun i s wr => ∃ (k : Nat) (d : Array Value), k ≤ n ∧ i = .int .i64 k ∧ s = .int .i64 (k0 + ((k * 2 : Nat) : Int)) ∧ Below g w wr ∧ frOf wr g = (0, 0) ∧ rowOf wr g = d ∧ n * 2 ≤ d.size ∧ (∀ q, q ≠ g → q < w.heap.size → rowOf wr q = rowOf w q ∧ frOf wr q = frOf w q) ∧ ∀ j, j < k * 2 → d[j]? = some (.int .i8 (mS k0 j))) (fun i s wr => n - (intOf i).toNat)
    case atStart => exact ⟨0, rowOf w g, by omega, rfl, by simp, by repeat' (first | with_reducible exact Below.refl _ _ | with_reducible assumption | with_reducible refine Below.drew ?_ | with_reducible refine Below.drewN ?_ _ | with_reducible refine Below.alloc ?_ ?_ _ | with_reducible refine Below.setCell ?_ ?_ _ | with_reducible refine Below.setRow ?_ ?_ _ | with_reducible refine below_step (by assumption) ?_ ?_ | (show (_ : Nat) ≤ _; first | omega | (simp <;> omega))), by (go_simp <;> (intros; omega)), by (go_simp <;> (intros; omega)), by omega, fun q _ _ => ⟨rfl, rfl⟩, fun j hj => absurd hj (by omega)⟩
    case round =>
      obtain ⟨k, d, hk, rfl, rfl, hb, hfr1, hrd, hds, hq, hd⟩ := hrel
      have HD := Lib.hid hd
      have HQ := Lib.hid hq
      clear hd hq
      have hszw := hb.size
      have hw1 : g < wr.heap.size := Nat.lt_of_lt_of_le hg hb.size
      by_cases hlt : k < n
      · obtain ⟨u0, hdk⟩ : ∃ u0, d[k * 2]? = some u0 := ⟨_, Array.getElem?_eq_getElem (by omega)⟩
        obtain ⟨u1, hdk1⟩ : ∃ u1, d[k * 2 + 1]? = some u1 := ⟨_, Array.getElem?_eq_getElem (by omega)⟩
        go_wp2
        go_roundw
        case rel => first | exact ⟨k + 1, (d.setIfInBounds (k * 2) (.int .i8 (IntKind.i8.wrap (k0 + (k : Int) * 2)))).setIfInBounds (k * 2 + 1) (.int .i8 (IntKind.i8.wrap (k0 + (k : Int) * 2 + 1))), by omega, by go_num, by go_num, by repeat' (first | with_reducible exact Below.refl _ _ | with_reducible assumption | with_reducible refine Below.drew ?_ | with_reducible refine Below.drewN ?_ _ | with_reducible refine Below.alloc ?_ ?_ _ | with_reducible refine Below.setCell ?_ ?_ _ | with_reducible refine Below.setRow ?_ ?_ _ | with_reducible refine below_step (by assumption) ?_ ?_ | (show (_ : Nat) ≤ _; first | omega | (simp <;> omega))), by (go_simp <;> (intros; omega)), by (go_simp <;> (intros; omega)), by simp; omega, fun q hq1 hq2 => ⟨by go_simp <;> first | exact (HQ.out q hq1 hq2).1 | omega, by go_simp <;> first | exact (HQ.out q hq1 hq2).2 | omega⟩, fun j hj => by rw [Array.getElem?_setIfInBounds, Array.getElem?_setIfInBounds]; split; (next e => subst e; rw [if_pos (by simp; omega)]; unfold mS; congr 3; omega); (next e => split; (next e2 => subst e2; rw [if_pos (by omega)]; unfold mS; congr 3); (next e2 => exact HD.out j (by omega)))⟩ | ((repeat (with_reducible apply Exists.intro)); refine And.intro ?_ ?_; rotate_left; (focus ((repeat' (with_reducible apply And.intro)) <;> rfl)); exact ⟨k + 1, (d.setIfInBounds (k * 2) (.int .i8 (IntKind.i8.wrap (k0 + (k : Int) * 2)))).setIfInBounds (k * 2 + 1) (.int .i8 (IntKind.i8.wrap (k0 + (k : Int) * 2 + 1))), by omega, by go_num, by go_num, by repeat' (first | with_reducible exact Below.refl _ _ | with_reducible assumption | with_reducible refine Below.drew ?_ | with_reducible refine Below.drewN ?_ _ | with_reducible refine Below.alloc ?_ ?_ _ | with_reducible refine Below.setCell ?_ ?_ _ | with_reducible refine Below.setRow ?_ ?_ _ | with_reducible refine below_step (by assumption) ?_ ?_ | (show (_ : Nat) ≤ _; first | omega | (simp <;> omega))), by (go_simp <;> (intros; omega)), by (go_simp <;> (intros; omega)), by simp; omega, fun q hq1 hq2 => ⟨by go_simp <;> first | exact (HQ.out q hq1 hq2).1 | omega, by go_simp <;> first | exact (HQ.out q hq1 hq2).2 | omega⟩, fun j hj => by rw [Array.getElem?_setIfInBounds, Array.getElem?_setIfInBounds]; split; (next e => subst e; rw [if_pos (by simp; omega)]; unfold mS; congr 3; omega); (next e => split; (next e2 => subst e2; rw [if_pos (by omega)]; unfold mS; congr 3); (next e2 => exact HD.out j (by omega)))⟩)
        case measure => simp [intOf]; omega
      · have hke : k = n := by omega
        subst hke
        go_wp2
        go_ret
        exact ⟨rfl, below_le (by repeat' (first | with_reducible exact Below.refl _ _ | with_reducible assumption | with_reducible refine Below.drew ?_ | with_reducible refine Below.drewN ?_ _ | with_reducible refine Below.alloc ?_ ?_ _ | with_reducible refine Below.setCell ?_ ?_ _ | with_reducible refine Below.setRow ?_ ?_ _ | with_reducible refine below_step (by assumption) ?_ ?_ | (show (_ : Nat) ≤ _; first | omega | (simp <;> omega)))) hbg, .inr ⟨g, cap, rfl, hbg, (by first | omega | (simp <;> omega)), by (go_simp <;> (intros; omega)), by go_simp <;> omega, fun j hj => by go_simp; exact HD.out j (by omega)⟩, fun k s b2 v2 n2 f2 h ha => h.apart rfl ha hszw HQ.out⟩
end Go.Proofs.YtbnhhjjhjjmmjaaDoor
