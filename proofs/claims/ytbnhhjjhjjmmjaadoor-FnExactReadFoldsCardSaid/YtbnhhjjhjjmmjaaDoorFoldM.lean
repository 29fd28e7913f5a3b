/- Slices of folds, marked and held by the statements. -/
import Derived.Test.YtbnhhjjhjjmmjaaDoorFoldS
namespace Go.Proofs.YtbnhhjjhjjmmjaaDoor
open Go.RowKit Go.ChangeShapes Go.WideShapes Go.ChangeAt Go.Deep
set_option linter.unusedVariables false
set_option linter.unusedSimpArgs false
set_option maxRecDepth 100000
def mkF (k : Nat) : Fd := ⟨IntKind.i8.wrap (1 + (k : Int) * 3), false, IntKind.i8.wrap (1 + (k : Int) * 3 + 1 + 1)⟩
theorem put_mk {d : Array Value} {n k : Nat} (hds : n * 3 ≤ d.size) (hk : k < n) (h : ∀ i, i < k → ∀ j, j < 3 → d[i * 3 + j]? = some (fdV mkF i j)) :
    ∀ i, i < k + 1 → ∀ j, j < 3 → (((d.setIfInBounds (k * 3) (.int .i8 (IntKind.i8.wrap (1 + (k : Int) * 3)))).setIfInBounds (k * 3 + 1) (.bool false)).setIfInBounds (k * 3 + 2) (.int .i8 (IntKind.i8.wrap (1 + (k : Int) * 3 + 1 + 1))))[i * 3 + j]? = some (fdV mkF i j) := by
  intro i hi j hj
  rw [Array.getElem?_setIfInBounds, Array.getElem?_setIfInBounds, Array.getElem?_setIfInBounds]
  by_cases hik : i = k
  · subst hik
    match j, hj with
    | 0, _ => rw [if_neg (by omega), if_neg (by omega), if_pos (by omega), if_pos (by omega)]; rfl
    | 1, _ => rw [if_neg (by omega), if_pos (by omega), if_pos (by simp; omega)]; rfl
    | 2, _ => rw [if_pos (by omega), if_pos (by simp; omega)]; rfl
  · rw [if_neg (by omega), if_neg (by omega), if_neg (by omega)]
    exact h i (by omega) j hj
set_option maxHeartbeats 4000000 in
theorem heldFoldS_own (v : Value) (n b : Nat) (hn : n < 1099511627776) (w : World) (h : OwnV 3 w b v n (fdV mkF)) :
    Calls Tryd.prog 41 #[v, .int .i64 1] w fun e w' => e = .returned (.int .i64 (1 + ((n * 3 : Nat) : Int))) ∧ Below w.heap.size w w' := by
  rcases Nat.eq_zero_or_pos n with hz | hp
  · subst hz
    obtain ⟨a1, c1, rfl⟩ := h.len
    clear h
    go_enter Tryd.func41, Tryd.ntmps41
    go_wp2
    go_loopw [5, 1] (fun i s wr => i = .int .i64 (0 : Nat) ∧ s = .int .i64 1 ∧ Below w.heap.size w wr) (fun i s wr => 0)
    case atStart => exact ⟨rfl, rfl, by repeat' (first | with_reducible exact Below.refl _ _ | with_reducible assumption | with_reducible refine Below.drew ?_ | with_reducible refine Below.drewN ?_ _ | with_reducible refine Below.alloc ?_ ?_ _ | with_reducible refine Below.setCell ?_ ?_ _ | with_reducible refine Below.setRow ?_ ?_ _ | with_reducible refine below_step (by assumption) ?_ ?_ | (show (_ : Nat) ≤ _; first | omega | (simp <;> omega)))⟩
    case round =>
      obtain ⟨rfl, rfl, hb⟩ := hrel
      go_wp2
      go_ret
      exact ⟨by simp, by repeat' (first | with_reducible exact Below.refl _ _ | with_reducible assumption | with_reducible refine Below.drew ?_ | with_reducible refine Below.drewN ?_ _ | with_reducible refine Below.alloc ?_ ?_ _ | with_reducible refine Below.setCell ?_ ?_ _ | with_reducible refine Below.setRow ?_ ?_ _ | with_reducible refine below_step (by assumption) ?_ ?_ | (show (_ : Nat) ≤ _; first | omega | (simp <;> omega)))⟩
  · obtain ⟨g, cap, rfl, -, hg, -, -, ht⟩ := h.pos hp
    have HX := Lib.hid ht
    clear h ht
    go_enter Tryd.func41, Tryd.ntmps41
    go_wp2
    go_loopw [5, 1] (fun i s wr => ∃ k : Nat, k ≤ n ∧ i = .int .i64 k ∧ s = .int .i64 (1 + ((k * 3 : Nat) : Int)) ∧ Below w.heap.size w wr) (fun i s wr => n - (intOf i).toNat)
    case atStart => exact ⟨0, by omega, rfl, by simp, by repeat' (first | with_reducible exact Below.refl _ _ | with_reducible assumption | with_reducible refine Below.drew ?_ | with_reducible refine Below.drewN ?_ _ | with_reducible refine Below.alloc ?_ ?_ _ | with_reducible refine Below.setCell ?_ ?_ _ | with_reducible refine Below.setRow ?_ ?_ _ | with_reducible refine below_step (by assumption) ?_ ?_ | (show (_ : Nat) ≤ _; first | omega | (simp <;> omega)))⟩
    case round =>
      obtain ⟨k, hk, rfl, rfl, hb⟩ := hrel
      have hr1 := keep_row hb hg
      have hw1 : g < wr.heap.size := Nat.lt_of_lt_of_le hg hb.size
      by_cases hlt : k < n
      · have e1 := HX.out k hlt 0 (by omega)
        have e2 := HX.out k hlt 1 (by omega)
        have e3 := HX.out k hlt 2 (by omega)
        rw [← hr1] at e1 e2 e3
        rw [show fdV mkF k 0 = .int .i8 (IntKind.i8.wrap (1 + (k : Int) * 3)) from rfl, Nat.add_zero] at e1
        rw [show fdV mkF k 1 = .bool false from rfl] at e2
        rw [show fdV mkF k 2 = .int .i8 (IntKind.i8.wrap (1 + (k : Int) * 3 + 1 + 1)) from rfl] at e3
        have htm : (1 + (k : Int) * 3 + 1).tmod 3 = 2 := by rw [Int.tmod_eq_emod_of_nonneg (by omega)]; omega
        clear hr1
        go_wp2
        go_roundw
        case rel => first | exact ⟨k + 1, by omega, by go_num, by go_num, by repeat' (first | with_reducible exact Below.refl _ _ | with_reducible assumption | with_reducible refine Below.drew ?_ | with_reducible refine Below.drewN ?_ _ | with_reducible refine Below.alloc ?_ ?_ _ | with_reducible refine Below.setCell ?_ ?_ _ | with_reducible refine Below.setRow ?_ ?_ _ | with_reducible refine below_step (by assumption) ?_ ?_ | (show (_ : Nat) ≤ _; first | omega | (simp <;> omega)))⟩ | ((repeat (with_reducible apply Exists.intro)); refine And.intro ?_ ?_; rotate_left; (focus ((repeat' (with_reducible apply And.intro)) <;> rfl)); exact ⟨k + 1, by omega, by go_num, by go_num, by repeat' (first | with_reducible exact Below.refl _ _ | with_reducible assumption | with_reducible refine Below.drew ?_ | with_reducible refine Below.drewN ?_ _ | with_reducible refine Below.alloc ?_ ?_ _ | with_reducible refine Below.setCell ?_ ?_ _ | with_reducible refine Below.setRow ?_ ?_ _ | with_reducible refine below_step (by assumption) ?_ ?_ | (show (_ : Nat) ≤ _; first | omega | (simp <;> omega)))⟩)
        case measure => simp [intOf]; omega
      · have hke : k = n := by omega
        subst hke
        clear hr1
        go_wp2
        go_ret
        exact ⟨rfl, by repeat' (first | with_reducible exact Below.refl _ _ | with_reducible assumption | with_reducible refine Below.drew ?_ | with_reducible refine Below.drewN ?_ _ | with_reducible refine Below.alloc ?_ ?_ _ | with_reducible refine Below.setCell ?_ ?_ _ | with_reducible refine Below.setRow ?_ ?_ _ | with_reducible refine below_step (by assumption) ?_ ?_ | (show (_ : Nat) ≤ _; first | omega | (simp <;> omega)))⟩
set_option maxHeartbeats 4000000 in
theorem markFoldS_own (v : Value) (n b : Nat) (F : Nat → Fd) (hn : n < 1099511627776) (w : World) (hbw : b ≤ w.heap.size) (h : OwnV 3 w b v n (fdV F)) :
    Calls Tryd.prog 40 #[v, .int .i64 1] w fun e w' => e = .returned (.int .i64 (1 + ((n * 3 : Nat) : Int))) ∧ Below b w w' ∧ OwnV 3 w' b v n (fdV mkF) ∧ ∀ s b2 v2 n2 V2, OwnV s w b2 v2 n2 V2 → Apart v v2 → OwnV s w' b2 v2 n2 V2 := by
  rcases Nat.eq_zero_or_pos n with hz | hp
  · subst hz
    obtain ⟨a1, c1, rfl⟩ := h.len
    have HH := Lib.hid h
    clear h
    go_enter Tryd.func40, Tryd.ntmps40
    go_wp2
    go_loopw [5, 1] (fun i s wr => i = .int .i64 (0 : Nat) ∧ s = .int .i64 1 ∧ Below w.heap.size w wr) (fun i s wr => 0)
    case atStart => exact ⟨rfl, rfl, by repeat' (first | with_reducible exact Below.refl _ _ | with_reducible assumption | with_reducible refine Below.drew ?_ | with_reducible refine Below.drewN ?_ _ | with_reducible refine Below.alloc ?_ ?_ _ | with_reducible refine Below.setCell ?_ ?_ _ | with_reducible refine Below.setRow ?_ ?_ _ | with_reducible refine below_step (by assumption) ?_ ?_ | (show (_ : Nat) ≤ _; first | omega | (simp <;> omega)))⟩
    case round =>
      obtain ⟨rfl, rfl, hb⟩ := hrel
      go_wp2
      go_ret
      exact ⟨by simp, below_le (by repeat' (first | with_reducible exact Below.refl _ _ | with_reducible assumption | with_reducible refine Below.drew ?_ | with_reducible refine Below.drewN ?_ _ | with_reducible refine Below.alloc ?_ ?_ _ | with_reducible refine Below.setCell ?_ ?_ _ | with_reducible refine Below.setRow ?_ ?_ _ | with_reducible refine below_step (by assumption) ?_ ?_ | (show (_ : Nat) ≤ _; first | omega | (simp <;> omega)))) hbw, (HH.out.below (by repeat' (first | with_reducible exact Below.refl _ _ | with_reducible assumption | with_reducible refine Below.drew ?_ | with_reducible refine Below.drewN ?_ _ | with_reducible refine Below.alloc ?_ ?_ _ | with_reducible refine Below.setCell ?_ ?_ _ | with_reducible refine Below.setRow ?_ ?_ _ | with_reducible refine below_step (by assumption) ?_ ?_ | (show (_ : Nat) ≤ _; first | omega | (simp <;> omega)))) (Nat.le_refl _)).congr (fun k hk => absurd hk (by omega)), fun s b2 v2 n2 V2 h _ => h.below (by repeat' (first | with_reducible exact Below.refl _ _ | with_reducible assumption | with_reducible refine Below.drew ?_ | with_reducible refine Below.drewN ?_ _ | with_reducible refine Below.alloc ?_ ?_ _ | with_reducible refine Below.setCell ?_ ?_ _ | with_reducible refine Below.setRow ?_ ?_ _ | with_reducible refine below_step (by assumption) ?_ ?_ | (show (_ : Nat) ≤ _; first | omega | (simp <;> omega)))) (Nat.le_refl _)⟩
  · obtain ⟨g, cap, rfl, hbg, hg, hfr, hsz, -⟩ := h.pos hp
    clear h
    go_enter Tryd.func40, Tryd.ntmps40
    go_wp2
    go_loopw [5, 1] (fun i s wr => ∃ (k : Nat) (d : Array Value), k ≤ n ∧ i = .int .i64 k ∧ s = .int .i64 (1 + ((k * 3 : Nat) : Int)) ∧ Below g w wr ∧ frOf wr g = (0, 0) ∧ rowOf wr g = d ∧ n * 3 ≤ d.size ∧ (∀ q, q ≠ g → q < w.heap.size → rowOf wr q = rowOf w q ∧ frOf wr q = frOf w q) ∧ ∀ i, i < k → ∀ j, j < 3 → d[i * 3 + j]? = some (fdV mkF i j)) (fun i s wr => n - (intOf i).toNat)
    case atStart => exact ⟨0, rowOf w g, by omega, rfl, by simp, by repeat' (first | with_reducible exact Below.refl _ _ | with_reducible assumption | with_reducible refine Below.drew ?_ | with_reducible refine Below.drewN ?_ _ | with_reducible refine Below.alloc ?_ ?_ _ | with_reducible refine Below.setCell ?_ ?_ _ | with_reducible refine Below.setRow ?_ ?_ _ | with_reducible refine below_step (by assumption) ?_ ?_ | (show (_ : Nat) ≤ _; first | omega | (simp <;> omega))), by (go_simp <;> (intros; omega)), by (go_simp <;> (intros; omega)), by omega, fun q _ _ => ⟨rfl, rfl⟩, fun j hj => absurd hj (by omega)⟩
    case round =>
      obtain ⟨k, d, hk, rfl, rfl, hb, hfr1, hrd, hds, hq, hd⟩ := hrel
      have HD := Lib.hid hd
      have HQ := Lib.hid hq
      clear hd hq
      have hszw := hb.size
      have hw1 : g < wr.heap.size := Nat.lt_of_lt_of_le hg hb.size
      by_cases hlt : k < n
      · obtain ⟨u0, hdk⟩ : ∃ u0, d[k * 3]? = some u0 := ⟨_, Array.getElem?_eq_getElem (by omega)⟩
        obtain ⟨u1, hdk1⟩ : ∃ u1, d[k * 3 + 1]? = some u1 := ⟨_, Array.getElem?_eq_getElem (by omega)⟩
        obtain ⟨u2, hdk2⟩ : ∃ u2, d[k * 3 + 2]? = some u2 := ⟨_, Array.getElem?_eq_getElem (by omega)⟩
        have HP := Lib.hid (put_mk hds hlt HD.out)
        have htm : (1 + (k : Int) * 3 + 1).tmod 3 = 2 := by rw [Int.tmod_eq_emod_of_nonneg (by omega)]; omega
        go_wp2
        go_roundw
        case rel => first | exact ⟨k + 1, ((d.setIfInBounds (k * 3) (.int .i8 (IntKind.i8.wrap (1 + (k : Int) * 3)))).setIfInBounds (k * 3 + 1) (.bool false)).setIfInBounds (k * 3 + 2) (.int .i8 (IntKind.i8.wrap (1 + (k : Int) * 3 + 1 + 1))), by omega, by go_num, by go_num, by repeat' (first | with_reducible exact Below.refl _ _ | with_reducible assumption | with_reducible refine Below.drew ?_ | with_reducible refine Below.drewN ?_ _ | with_reducible refine Below.alloc ?_ ?_ _ | with_reducible refine Below.setCell ?_ ?_ _ | with_reducible refine Below.setRow ?_ ?_ _ | with_reducible refine below_step (by assumption) ?_ ?_ | (show (_ : Nat) ≤ _; first | omega | (simp <;> omega))), by (go_simp <;> (intros; omega)), by (go_simp <;> (intros; omega)), by simp; omega, fun q hq1 hq2 => ⟨by go_simp <;> first | exact (HQ.out q hq1 hq2).1 | omega, by go_simp <;> first | exact (HQ.out q hq1 hq2).2 | omega⟩, HP.out⟩ | ((repeat (with_reducible apply Exists.intro)); refine And.intro ?_ ?_; rotate_left; (focus ((repeat' (with_reducible apply And.intro)) <;> rfl)); exact ⟨k + 1, ((d.setIfInBounds (k * 3) (.int .i8 (IntKind.i8.wrap (1 + (k : Int) * 3)))).setIfInBounds (k * 3 + 1) (.bool false)).setIfInBounds (k * 3 + 2) (.int .i8 (IntKind.i8.wrap (1 + (k : Int) * 3 + 1 + 1))), by omega, by go_num, by go_num, by repeat' (first | with_reducible exact Below.refl _ _ | with_reducible assumption | with_reducible refine Below.drew ?_ | with_reducible refine Below.drewN ?_ _ | with_reducible refine Below.alloc ?_ ?_ _ | with_reducible refine Below.setCell ?_ ?_ _ | with_reducible refine Below.setRow ?_ ?_ _ | with_reducible refine below_step (by assumption) ?_ ?_ | (show (_ : Nat) ≤ _; first | omega | (simp <;> omega))), by (go_simp <;> (intros; omega)), by (go_simp <;> (intros; omega)), by simp; omega, fun q hq1 hq2 => ⟨by go_simp <;> first | exact (HQ.out q hq1 hq2).1 | omega, by go_simp <;> first | exact (HQ.out q hq1 hq2).2 | omega⟩, HP.out⟩)
        case measure => simp [intOf]; omega
      · have hke : k = n := by omega
        subst hke
        go_wp2
        go_ret
        exact ⟨rfl, below_le (by repeat' (first | with_reducible exact Below.refl _ _ | with_reducible assumption | with_reducible refine Below.drew ?_ | with_reducible refine Below.drewN ?_ _ | with_reducible refine Below.alloc ?_ ?_ _ | with_reducible refine Below.setCell ?_ ?_ _ | with_reducible refine Below.setRow ?_ ?_ _ | with_reducible refine below_step (by assumption) ?_ ?_ | (show (_ : Nat) ≤ _; first | omega | (simp <;> omega)))) hbg, .inr ⟨g, cap, rfl, hbg, (by first | omega | (simp <;> omega)), by (go_simp <;> (intros; omega)), by go_simp <;> omega, fun i hi j hj => by go_simp; exact HD.out i hi j hj⟩, fun s b2 v2 n2 V2 h ha => h.apart rfl ha hszw HQ.out⟩
end Go.Proofs.YtbnhhjjhjjmmjaaDoor
