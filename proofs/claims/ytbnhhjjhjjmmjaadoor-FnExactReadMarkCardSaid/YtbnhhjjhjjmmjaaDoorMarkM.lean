/- Marks, marked and held by the statements. -/
import Derived.Test.YtbnhhjjhjjmmjaaDoorMarkT
import Derived.Test.YtbnhhjjhjjmmjaaDoorSlS
namespace Go.Proofs.YtbnhhjjhjjmmjaaDoor
open Go.RowKit Go.ChangeShapes Go.WideShapes Go.ChangeAt Go.Deep
set_option linter.unusedVariables false
set_option linter.unusedSimpArgs false
set_option maxRecDepth 100000
set_option maxHeartbeats 2000000 in
theorem markSpotS_rows (v : Value) (n b : Nat) (f : Nat → Int) (k0 : Int) (hk0 : 0 ≤ k0 ∧ k0 ≤ 1099511627776) (hn : n < 1099511627776) (w : World) (hbw : b ≤ w.heap.size) (h : OwnK .i8 2 w b v n f) :
    Calls Tryd.prog 32 #[v, .int .i64 k0] w fun e w' => e = .returned (.int .i64 (k0 + ((n * 2 : Nat) : Int))) ∧ Below b w w' ∧ OwnK .i8 2 w' b v n (mS k0) ∧ (∀ k s b2 v2 n2 f2, OwnK k s w b2 v2 n2 f2 → Apart v v2 → OwnK k s w' b2 v2 n2 f2) ∧ ∀ q, q < w.heap.size → (∀ g cap, v = .slice (some ⟨g, 0, none⟩) n cap → q ≠ g) → rowOf w' q = rowOf w q ∧ frOf w' q = frOf w q := by
  rcases Nat.eq_zero_or_pos n with hz | hp
  · subst hz
    obtain ⟨a1, c1, rfl⟩ := h.len
    have HH := Lib.hid h
    clear h
    go_enter Tryd.func32, Tryd.ntmps32
    go_wp2
    go_loopw [5, 1] (fun i s wr => i = .int .i64 (0 : Nat) ∧ s = .int .i64 k0 ∧ Below w.heap.size w wr) (fun i s wr => 0)
    case atStart => exact ⟨rfl, rfl, by repeat' (first | with_reducible exact Below.refl _ _ | with_reducible assumption | with_reducible refine Below.drew ?_ | with_reducible refine Below.drewN ?_ _ | with_reducible refine Below.alloc ?_ ?_ _ | with_reducible refine Below.setCell ?_ ?_ _ | with_reducible refine Below.setRow ?_ ?_ _ | with_reducible refine below_step (by assumption) ?_ ?_ | (show (_ : Nat) ≤ _; first | omega | (simp <;> omega)))⟩
    case round =>
      obtain ⟨rfl, rfl, hb⟩ := hrel
      have HB := Lib.hid hb
      go_wp2
      go_ret
      exact ⟨by simp, below_le (by repeat' (first | with_reducible exact Below.refl _ _ | with_reducible assumption | with_reducible refine Below.drew ?_ | with_reducible refine Below.drewN ?_ _ | with_reducible refine Below.alloc ?_ ?_ _ | with_reducible refine Below.setCell ?_ ?_ _ | with_reducible refine Below.setRow ?_ ?_ _ | with_reducible refine below_step (by assumption) ?_ ?_ | (show (_ : Nat) ≤ _; first | omega | (simp <;> omega)))) hbw, (HH.out.below (by repeat' (first | with_reducible exact Below.refl _ _ | with_reducible assumption | with_reducible refine Below.drew ?_ | with_reducible refine Below.drewN ?_ _ | with_reducible refine Below.alloc ?_ ?_ _ | with_reducible refine Below.setCell ?_ ?_ _ | with_reducible refine Below.setRow ?_ ?_ _ | with_reducible refine below_step (by assumption) ?_ ?_ | (show (_ : Nat) ≤ _; first | omega | (simp <;> omega)))) (Nat.le_refl _)).congr (fun j hj => absurd hj (by omega)), fun k s b2 v2 n2 f2 h _ => h.below (by repeat' (first | with_reducible exact Below.refl _ _ | with_reducible assumption | with_reducible refine Below.drew ?_ | with_reducible refine Below.drewN ?_ _ | with_reducible refine Below.alloc ?_ ?_ _ | with_reducible refine Below.setCell ?_ ?_ _ | with_reducible refine Below.setRow ?_ ?_ _ | with_reducible refine below_step (by assumption) ?_ ?_ | (show (_ : Nat) ≤ _; first | omega | (simp <;> omega)))) (Nat.le_refl _), fun q hq _ => ⟨keep_row HB.out hq, keep_fr HB.out hq⟩⟩
  · obtain ⟨g, cap, rfl, hbg, hg, hfr, hsz, -⟩ := h.pos hp
    clear h
    go_enter Tryd.func32, Tryd.ntmps32
    go_wp2
    go_loopw [5, 1] (fun i s wr => ∃ (k : Nat) (d : Array Value), k ≤ n ∧ i = .int .i64 k ∧ s = .int .i64 (k0 + ((k * 2 : Nat) : Int)) ∧ Below g w wr ∧ frOf wr g = (0, 0) ∧ rowOf wr g = d ∧ n * 2 ≤ d.size ∧ (∀ q, q ≠ g → q < w.heap.size → rowOf wr q = rowOf w q ∧ frOf wr q = frOf w q) ∧ ∀ j, j < k * 2 → d[j]? = some (.int .i8 (mS k0 j))) (fun i s wr => n - (intOf i).toNat)
    case atStart => exact ⟨0, rowOf w g, by omega, rfl, by simp, by repeat' (first | with_reducible exact Below.refl _ _ | with_reducible assumption | with_reducible refine Below.drew ?_ | with_reducible refine Below.drewN ?_ _ | with_reducible refine Below.alloc ?_ ?_ _ | with_reducible refine Below.setCell ?_ ?_ _ | with_reducible refine Below.setRow ?_ ?_ _ | with_reducible refine below_step (by assumption) ?_ ?_ | (show (_ : Nat) ≤ _; first | omega | (simp <;> omega))), by (go_simp <;> (intros; omega)), by (go_simp <;> (intros; omega)), by omega, fun q _ _ => ⟨rfl, rfl⟩, fun j hj => absurd hj (by omega)⟩
    case round =>
      obtain ⟨k, d, hk, rfl, rfl, hb, hfr1, hrd, hds, hq, hd⟩ := hrel
      have HD := Lib.hid hd
      have HQ := Lib.hid hq
      clear hd hq
      have hszw := hb.size
      have hw1 : g < wr.heap.size := Nat.lt_of_lt_of_le hg hb.size
      by_cases hlt : k < n
      · obtain ⟨u0, hdk⟩ : ∃ u0, d[k * 2]? = some u0 := ⟨_, Array.getElem?_eq_getElem (by omega)⟩
        obtain ⟨u1, hdk1⟩ : ∃ u1, d[k * 2 + 1]? = some u1 := ⟨_, Array.getElem?_eq_getElem (by omega)⟩
        go_wp2
        go_roundw
        case rel => first | exact ⟨k + 1, (d.setIfInBounds (k * 2) (.int .i8 (IntKind.i8.wrap (k0 + (k : Int) * 2)))).setIfInBounds (k * 2 + 1) (.int .i8 (IntKind.i8.wrap (k0 + (k : Int) * 2 + 1))), by omega, by go_num, by go_num, by repeat' (first | with_reducible exact Below.refl _ _ | with_reducible assumption | with_reducible refine Below.drew ?_ | with_reducible refine Below.drewN ?_ _ | with_reducible refine Below.alloc ?_ ?_ _ | with_reducible refine Below.setCell ?_ ?_ _ | with_reducible refine Below.setRow ?_ ?_ _ | with_reducible refine below_step (by assumption) ?_ ?_ | (show (_ : Nat) ≤ _; first | omega | (simp <;> omega))), by (go_simp <;> (intros; omega)), by (go_simp <;> (intros; omega)), by simp; omega, fun q hq1 hq2 => ⟨by go_simp <;> first | exact (HQ.out q hq1 hq2).1 | omega, by go_simp <;> first | exact (HQ.out q hq1 hq2).2 | omega⟩, fun j hj => by rw [Array.getElem?_setIfInBounds, Array.getElem?_setIfInBounds]; split; (next e => subst e; rw [if_pos (by simp; omega)]; unfold mS; congr 3; omega); (next e => split; (next e2 => subst e2; rw [if_pos (by omega)]; unfold mS; congr 3); (next e2 => exact HD.out j (by omega)))⟩ | ((repeat (with_reducible apply Exists.intro)); refine And.intro ?_ ?_; rotate_left; (focus ((repeat' (with_reducible apply And.intro)) <;> rfl)); exact ⟨k + 1, (d.setIfInBounds (k * 2) (.int .i8 (IntKind.i8.wrap (k0 + (k : Int) * 2)))).setIfInBounds (k * 2 + 1) (.int .i8 (IntKind.i8.wrap (k0 + (k : Int) * 2 + 1))), by omega, by go_num, by go_num, by repeat' (first | with_reducible exact Below.refl _ _ | with_reducible assumption | with_reducible refine Below.drew ?_ | with_reducible refine Below.drewN ?_ _ | with_reducible refine Below.alloc ?_ ?_ _ | with_reducible refine Below.setCell ?_ ?_ _ | with_reducible refine Below.setRow ?_ ?_ _ | with_reducible refine below_step (by assumption) ?_ ?_ | (show (_ : Nat) ≤ _; first | omega | (simp <;> omega))), by (go_simp <;> (intros; omega)), by (go_simp <;> (intros; omega)), by simp; omega, fun q hq1 hq2 => ⟨by go_simp <;> first | exact (HQ.out q hq1 hq2).1 | omega, by go_simp <;> first | exact (HQ.out q hq1 hq2).2 | omega⟩, fun j hj => by rw [Array.getElem?_setIfInBounds, Array.getElem?_setIfInBounds]; split; (next e => subst e; rw [if_pos (by simp; omega)]; unfold mS; congr 3; omega); (next e => split; (next e2 => subst e2; rw [if_pos (by omega)]; unfold mS; congr 3); (next e2 => exact HD.out j (by omega)))⟩)
        case measure => simp [intOf]; omega
      · have hke : k = n := by omega
        subst hke
        go_wp2
        go_ret
        exact ⟨rfl, below_le (by repeat' (first | with_reducible exact Below.refl _ _ | with_reducible assumption | with_reducible refine Below.drew ?_ | with_reducible refine Below.drewN ?_ _ | with_reducible refine Below.alloc ?_ ?_ _ | with_reducible refine Below.setCell ?_ ?_ _ | with_reducible refine Below.setRow ?_ ?_ _ | with_reducible refine below_step (by assumption) ?_ ?_ | (show (_ : Nat) ≤ _; first | omega | (simp <;> omega)))) hbg, .inr ⟨g, cap, rfl, hbg, (by first | omega | (simp <;> omega)), by (go_simp <;> (intros; omega)), by go_simp <;> omega, fun j hj => by go_simp; exact HD.out j (by omega)⟩, fun k s b2 v2 n2 f2 h ha => h.apart rfl ha hszw HQ.out, fun q hq hne => HQ.out q (hne g cap rfl) hq⟩
theorem markMark_own (col : Int) (v : Value) (n b : Nat) (f : Nat → Int) (hn : n < 1099511627776) (w : World) (hbw : b ≤ w.heap.size) (h : OwnK .i8 2 w b v n f) :
    Calls Tryd.prog 36 #[.agg #[.int .i8 col, v], .int .i64 1] w fun e w' => e = .returned (.int .i64 (1 + ((n * 2 : Nat) : Int))) ∧ Below b w w' ∧ OwnK .i8 2 w' b v n (mS 1) ∧ (∀ k s b2 v2 n2 f2, OwnK k s w b2 v2 n2 f2 → Apart v v2 → OwnK k s w' b2 v2 n2 f2) ∧ ∀ q, q < w.heap.size → (∀ g cap, v = .slice (some ⟨g, 0, none⟩) n cap → q ≠ g) → rowOf w' q = rowOf w q ∧ frOf w' q = frOf w q := by
  have HH := Lib.hid h
  obtain ⟨a1, c1, rfl⟩ := h.len
  clear h
  go_enter Tryd.func36, Tryd.ntmps36
  go_wp2_with (go_at_call 32; refine (markSpotS_rows _ n b f 1 (by omega) hn _ (by first | omega | (simp <;> omega)) (HH.out.below (by repeat' (first | with_reducible exact Below.refl _ _ | with_reducible assumption | with_reducible refine Below.drew ?_ | with_reducible refine Below.drewN ?_ _ | with_reducible refine Below.alloc ?_ ?_ _ | with_reducible refine Below.setCell ?_ ?_ _ | with_reducible refine Below.setRow ?_ ?_ _ | with_reducible refine below_step (by assumption) ?_ ?_ | (show (_ : Nat) ≤ _; first | omega | (simp <;> omega)))) (Nat.le_refl _))).mono ?_; rintro e w1 ⟨rfl, hb1, ho, hk, hq⟩; have HO := Lib.hid ho; have HK := Lib.hid hk; have HQ := Lib.hid hq; have HB := Lib.hid hb1; clear ho hk hq)
  go_ret
  exact ⟨rfl, below_step HB.out (Nat.le_refl _) (below_le (by repeat' (first | with_reducible exact Below.refl _ _ | with_reducible assumption | with_reducible refine Below.drew ?_ | with_reducible refine Below.drewN ?_ _ | with_reducible refine Below.alloc ?_ ?_ _ | with_reducible refine Below.setCell ?_ ?_ _ | with_reducible refine Below.setRow ?_ ?_ _ | with_reducible refine below_step (by assumption) ?_ ?_ | (show (_ : Nat) ≤ _; first | omega | (simp <;> omega)))) hbw), HO.out, fun k s b2 v2 n2 f2 h ha => HK.out k s b2 v2 n2 f2 (h.below (by repeat' (first | with_reducible exact Below.refl _ _ | with_reducible assumption | with_reducible refine Below.drew ?_ | with_reducible refine Below.drewN ?_ _ | with_reducible refine Below.alloc ?_ ?_ _ | with_reducible refine Below.setCell ?_ ?_ _ | with_reducible refine Below.setRow ?_ ?_ _ | with_reducible refine below_step (by assumption) ?_ ?_ | (show (_ : Nat) ≤ _; first | omega | (simp <;> omega)))) (Nat.le_refl _)) ha, fun q hq hne => by
    have h := HQ.out q (by first | omega | (simp <;> omega)) hne
    exact ⟨h.1.trans (by go_simp <;> omega), h.2.trans (by go_simp <;> omega)⟩⟩
theorem heldMark_own (col : Int) (v : Value) (n b : Nat) (hn : n < 1099511627776) (w : World) (h : OwnK .i8 2 w b v n (mS 1)) :
    Calls Tryd.prog 37 #[.agg #[.int .i8 col, v], .int .i64 1] w fun e w' => e = .returned (.int .i64 (1 + ((n * 2 : Nat) : Int))) ∧ Below w.heap.size w w' := by
  have HH := Lib.hid h
  obtain ⟨a1, c1, rfl⟩ := h.len
  have hpos : ¬ (1 + ((n * 2 : Nat) : Int)) < 0 := by omega
  clear h
  go_enter Tryd.func37, Tryd.ntmps37
  go_wp2_with (go_at_call 33; refine (heldSpotS_own _ n _ 1 (by omega) hn _ (HH.out.below (by repeat' (first | with_reducible exact Below.refl _ _ | with_reducible assumption | with_reducible refine Below.drew ?_ | with_reducible refine Below.drewN ?_ _ | with_reducible refine Below.alloc ?_ ?_ _ | with_reducible refine Below.setCell ?_ ?_ _ | with_reducible refine Below.setRow ?_ ?_ _ | with_reducible refine below_step (by assumption) ?_ ?_ | (show (_ : Nat) ≤ _; first | omega | (simp <;> omega)))) (Nat.le_refl _))).mono ?_; rintro e w1 ⟨rfl, hb1⟩; have r_hb1 := keep_rowA hb1; have f_hb1 := keep_frA hb1; have s_hb1 := hb1.size; (try simp only [World.size_alloc, World.size_setCell, setRow_size, World.size_drew, size_drewNm] at r_hb1 f_hb1 s_hb1))
  go_ret
  exact ⟨rfl, by repeat' (first | with_reducible exact Below.refl _ _ | with_reducible assumption | with_reducible refine Below.drew ?_ | with_reducible refine Below.drewN ?_ _ | with_reducible refine Below.alloc ?_ ?_ _ | with_reducible refine Below.setCell ?_ ?_ _ | with_reducible refine Below.setRow ?_ ?_ _ | with_reducible refine below_step (by assumption) ?_ ?_ | (show (_ : Nat) ≤ _; first | omega | (simp <;> omega)))⟩
end Go.Proofs.YtbnhhjjhjjmmjaaDoor
