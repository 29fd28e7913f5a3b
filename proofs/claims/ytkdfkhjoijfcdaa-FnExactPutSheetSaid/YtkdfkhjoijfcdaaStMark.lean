/- A stack marked by the statement, and found to hold the marks. -/
import Derived.Test.YtkdfkhjoijfcdaaStack
namespace Go.Proofs.Ytkdfkhjoijfcdaa
open Go.RowKit
set_option linter.unusedVariables false
set_option linter.unusedSimpArgs false
set_option maxRecDepth 100000
/-- The first m marks stand: sheet i has ten of them, at its sides and its wax. -/
def mkP (i j : Nat) : Nat := 10 * i + (if j < 2 then j else j - 256)
def mkU (k0 : Int) (F : Nat → Nat → Int) (m i j : Nat) : Int := if (j < 2 ∨ 258 ≤ j) ∧ mkP i j < m then (sk j).wrap (k0 + (mkP i j : Int)) else F i j
def MkRow (k0 : Int) (F : Nat → Nat → Int) (n m : Nat) (d : Array Value) : Prop := ∀ i, i < n → ∀ j, j < 266 → d[i * 266 + j]? = some (.int (sk j) (mkU k0 F m i j))
theorem mkP_inj {i j i0 j0 : Nat} (hj : j < 266) (hj0 : j0 < 266) (h : j < 2 ∨ 258 ≤ j) (h0 : j0 < 2 ∨ 258 ≤ j0) (e : mkP i j = mkP i0 j0) : i = i0 ∧ j = j0 := by
  unfold mkP at e
  split at e <;> split at e <;> omega
theorem mk_next {k0 : Int} {F : Nat → Nat → Int} {n m i0 j0 : Nat} {d : Array Value} (h : MkRow k0 F n m d) (hds : n * 266 ≤ d.size) (hi0 : i0 < n) (hj0 : j0 < 266) (hp : j0 < 2 ∨ 258 ≤ j0) (hm : mkP i0 j0 = m) (k : IntKind) (hk : sk j0 = k) (u : Int) (hu : u = k.wrap (k0 + (m : Int))) :
    MkRow k0 F n (m + 1) (d.setIfInBounds (i0 * 266 + j0) (.int k u)) := fun i hi j hj => by
  by_cases hij : i = i0 ∧ j = j0
  · obtain ⟨rfl, rfl⟩ := hij
    rw [Array.getElem?_setIfInBounds_self_of_lt (by omega)]
    unfold mkU
    rw [if_pos ⟨hp, by omega⟩, hm, hk, hu]
  · rw [Array.getElem?_setIfInBounds_ne (by omega), h i hi j hj]
    unfold mkU
    by_cases hq : j < 2 ∨ 258 ≤ j
    · have hne : mkP i j ≠ m := fun e => hij (mkP_inj hj hj0 hq hp (e.trans hm.symm))
      by_cases hlt : mkP i j < m
      · rw [if_pos ⟨hq, hlt⟩, if_pos ⟨hq, by omega⟩]
      · rw [if_neg (fun g => hlt g.2), if_neg (fun g => by omega)]
    · rw [if_neg (fun g => hq g.1), if_neg (fun g => hq g.1)]
theorem mk_zero {k0 : Int} {F : Nat → Nat → Int} {n : Nat} {d : Array Value} (h : ∀ i, i < n → ∀ j, j < 266 → d[i * 266 + j]? = some (shV F i j)) : MkRow k0 F n 0 d := fun i hi j hj => by
  rw [h i hi j hj]
  unfold mkU shV
  rw [if_neg (fun g => by omega)]
theorem mk_side {k0 : Int} {F : Nat → Nat → Int} {n i : Nat} (hi : i < n) : shV (mkU k0 F (10 * n)) i 0 = .int .i8 (IntKind.i8.wrap (k0 + (i : Int) * 10)) := by
  have e : mkP i 0 = 10 * i := by unfold mkP; rfl
  unfold shV mkU
  rw [e, if_pos ⟨by omega, by omega⟩]
  show Value.int .i8 (IntKind.i8.wrap _) = _
  congr 2
  omega
theorem mk_side1 {k0 : Int} {F : Nat → Nat → Int} {n i : Nat} (hi : i < n) : shV (mkU k0 F (10 * n)) i 1 = .int .i8 (IntKind.i8.wrap (k0 + (i : Int) * 10 + 1)) := by
  have e : mkP i 1 = 10 * i + 1 := by unfold mkP; rfl
  unfold shV mkU
  rw [e, if_pos ⟨by omega, by omega⟩]
  show Value.int .i8 (IntKind.i8.wrap _) = _
  congr 2
  omega
theorem sk_waxj {j : Nat} (hj : j < 8) : sk (258 + j) = .u8 := by unfold sk; rw [if_neg (by omega), if_neg (by omega)]
theorem mkP_wax {i j : Nat} (hj : j < 8) : mkP i (258 + j) = 10 * i + 2 + j := by unfold mkP; rw [if_neg (by omega)]; omega
theorem u8_mod (n : Int) : IntKind.u8.wrap n = n % 256 := by simp [IntKind.wrap, IntKind.bits, IntKind.signed]
theorem mk_wax {k0 : Int} {F : Nat → Nat → Int} {n i j : Nat} (hi : i < n) (hj : j < 8) : shV (mkU k0 F (10 * n)) i (258 + j) = .int .u8 ((k0 + (i : Int) * 10 + 1 + 1 + (j : Int)) % 256) := by
  have e := mkP_wax (i := i) hj
  unfold shV mkU
  rw [e, if_pos ⟨by omega, by omega⟩, sk_waxj hj, u8_mod]
  congr 2
  omega
set_option maxHeartbeats 4000000 in
theorem markStack_own (v : Value) (n b : Nat) (F : Nat → Nat → Int) (k0 : Int) (hk0 : 0 ≤ k0 ∧ k0 ≤ 1099511627776) (hn : n < 1099511627776) (w : World) (hbw : b ≤ w.heap.size) (h : OwnV 266 w b v n (shV F)) :
    Calls Try.prog 11 #[v, .int .i64 k0] w fun e w' => e = .returned (.int .i64 (k0 + (n : Int) * 10)) ∧ Below b w w' ∧ OwnV 266 w' b v n (shV (mkU k0 F (10 * n))) ∧ ∀ s b2 v2 n2 V2, OwnV s w b2 v2 n2 V2 → Apart v v2 → OwnV s w' b2 v2 n2 V2 := by
  rcases Nat.eq_zero_or_pos n with hz | hp
  · subst hz
    obtain ⟨a1, c1, rfl⟩ := h.len
    have HH := Lib.hid h
    clear h
    go_enter Try.func11, Try.ntmps11
    go_wp2
    go_loopw [5, 1] (fun i s wr => i = .int .i64 (0 : Nat) ∧ s = .int .i64 k0 ∧ Below w.heap.size w wr) (fun i s wr => 0)
    case atStart => exact ⟨rfl, rfl, by repeat' (first | with_reducible exact Below.refl _ _ | with_reducible assumption | with_reducible refine Below.drew ?_ | with_reducible refine Below.drewN ?_ _ | with_reducible refine Below.alloc ?_ ?_ _ | with_reducible refine Below.setCell ?_ ?_ _ | with_reducible refine Below.setRow ?_ ?_ _ | with_reducible refine below_step (by assumption) ?_ ?_ | (show (_ : Nat) ≤ _; first | omega | (simp <;> omega)))⟩
    case round =>
      obtain ⟨rfl, rfl, hb⟩ := hrel
      go_wp2
      go_ret
      exact ⟨by simp, below_le (by repeat' (first | with_reducible exact Below.refl _ _ | with_reducible assumption | with_reducible refine Below.drew ?_ | with_reducible refine Below.drewN ?_ _ | with_reducible refine Below.alloc ?_ ?_ _ | with_reducible refine Below.setCell ?_ ?_ _ | with_reducible refine Below.setRow ?_ ?_ _ | with_reducible refine below_step (by assumption) ?_ ?_ | (show (_ : Nat) ≤ _; first | omega | (simp <;> omega)))) hbw, (HH.out.below (by repeat' (first | with_reducible exact Below.refl _ _ | with_reducible assumption | with_reducible refine Below.drew ?_ | with_reducible refine Below.drewN ?_ _ | with_reducible refine Below.alloc ?_ ?_ _ | with_reducible refine Below.setCell ?_ ?_ _ | with_reducible refine Below.setRow ?_ ?_ _ | with_reducible refine below_step (by assumption) ?_ ?_ | (show (_ : Nat) ≤ _; first | omega | (simp <;> omega)))) (Nat.le_refl _)).congr (fun k hk => absurd hk (by omega)), fun s b2 v2 n2 V2 h _ => h.below (by repeat' (first | with_reducible exact Below.refl _ _ | with_reducible assumption | with_reducible refine Below.drew ?_ | with_reducible refine Below.drewN ?_ _ | with_reducible refine Below.alloc ?_ ?_ _ | with_reducible refine Below.setCell ?_ ?_ _ | with_reducible refine Below.setRow ?_ ?_ _ | with_reducible refine below_step (by assumption) ?_ ?_ | (show (_ : Nat) ≤ _; first | omega | (simp <;> omega)))) (Nat.le_refl _)⟩
  · obtain ⟨g, cap, rfl, hbg, hg, hfr, hsz, hcells⟩ := h.pos hp
    have HM := Lib.hid (mk_zero (k0 := k0) hcells)
    clear h hcells
    go_enter Try.func11, Try.ntmps11
    go_wp2
    go_loopw [5, 1] (fun i s wr => ∃ (k : Nat) (d : Array Value), k ≤ n ∧ i = .int .i64 k ∧ s = .int .i64 (k0 + (k : Int) * 10) ∧ Below g w wr ∧ frOf wr g = (0, 0) ∧ rowOf wr g = d ∧ n * 266 ≤ d.size ∧ (∀ q, q ≠ g → q < w.heap.size → rowOf wr q = rowOf w q ∧ frOf wr q = frOf w q) ∧ MkRow k0 F n (10 * k) d) (fun i s wr => n - (intOf i).toNat)
    case atStart => exact ⟨0, rowOf w g, by omega, rfl, by simp, by repeat' (first | with_reducible exact Below.refl _ _ | with_reducible assumption | with_reducible refine Below.drew ?_ | with_reducible refine Below.drewN ?_ _ | with_reducible refine Below.alloc ?_ ?_ _ | with_reducible refine Below.setCell ?_ ?_ _ | with_reducible refine Below.setRow ?_ ?_ _ | with_reducible refine below_step (by assumption) ?_ ?_ | (show (_ : Nat) ≤ _; first | omega | (simp <;> omega))), by (go_simp <;> (intros; omega)), by (go_simp <;> (intros; omega)), by omega, fun q _ _ => ⟨rfl, rfl⟩, HM.out⟩
    case round =>
      obtain ⟨k, d, hk, rfl, rfl, hb, hfr1, hrd, hds, hq, hd⟩ := hrel
      have HQ := Lib.hid hq
      have hszw := hb.size
      have hw1 : g < wr.heap.size := Nat.lt_of_lt_of_le hg hb.size
      by_cases hlt : k < n
      · have h1 := mk_next hd hds hlt (j0 := 0) (by omega) (by omega) (by unfold mkP; rfl) .i8 rfl (IntKind.i8.wrap (k0 + (k : Int) * 10)) (by congr 1; omega)
        have h2 := mk_next h1 (by rw [Array.size_setIfInBounds]; exact hds) hlt (j0 := 1) (by omega) (by omega) (by unfold mkP; rfl) .i8 rfl (IntKind.i8.wrap (k0 + (k : Int) * 10 + 1)) (by congr 1; omega)
        have H2 := Lib.hid h2
        obtain ⟨u0, hdk⟩ : ∃ u0, d[k * 266]? = some u0 := ⟨_, Array.getElem?_eq_getElem (by omega)⟩
        obtain ⟨u1, hdk1⟩ : ∃ u1, d[k * 266 + 1]? = some u1 := ⟨_, Array.getElem?_eq_getElem (by omega)⟩
        have hlt2 : (k : Int) < (n : Int) := by omega
        clear hd hq h1 h2
        go_wp2
        go_loopw [6, 1] (fun i s wx => ∃ (j : Nat) (d2 : Array Value), j ≤ 8 ∧ i = .int .i64 j ∧ s = .int .i64 (k0 + (k : Int) * 10 + 1 + 1 + (j : Int)) ∧ Below g w wx ∧ frOf wx g = (0, 0) ∧ rowOf wx g = d2 ∧ n * 266 ≤ d2.size ∧ (∀ q, q ≠ g → q < w.heap.size → rowOf wx q = rowOf w q ∧ frOf wx q = frOf w q) ∧ MkRow k0 F n (10 * k + 2 + j) d2) (fun i s wx => 8 - (intOf i).toNat)
        case atStart => exact ⟨0, _, by omega, rfl, by simp, by repeat' (first | with_reducible exact Below.refl _ _ | with_reducible assumption | with_reducible refine Below.drew ?_ | with_reducible refine Below.drewN ?_ _ | with_reducible refine Below.alloc ?_ ?_ _ | with_reducible refine Below.setCell ?_ ?_ _ | with_reducible refine Below.setRow ?_ ?_ _ | with_reducible refine below_step (by assumption) ?_ ?_ | (show (_ : Nat) ≤ _; first | omega | (simp <;> omega))), by (go_simp <;> (intros; omega)), by go_simp <;> rfl, by simp; omega, fun q hq1 hq2 => ⟨by go_simp <;> first | exact (HQ.out q hq1 hq2).1 | omega, by go_simp <;> first | exact (HQ.out q hq1 hq2).2 | omega⟩, H2.out⟩
        case round =>
          clear hb hfr1 hrd hds HQ hszw hw1 hdk hdk1 H2
          obtain ⟨j, d2, hj8, rfl, rfl, hb, hfr1, hrd, hds, hq, hd⟩ := hrel
          have HQ := Lib.hid hq
          have hszw := hb.size
          have hw1 : g < wr.heap.size := Nat.lt_of_lt_of_le hg hb.size
          by_cases hjl : j < 8
          · have h1 := mk_next hd hds hlt (j0 := 258 + j) (by omega) (by omega) (mkP_wax hjl) .u8 (sk_waxj hjl) ((k0 + (k : Int) * 10 + 1 + 1 + (j : Int)) % 256) (by rw [u8_mod]; congr 1; omega)
            rw [← Nat.add_assoc] at h1
            have H1 := Lib.hid h1
            obtain ⟨u0, hdk⟩ : ∃ u0, d2[k * 266 + 258 + j]? = some u0 := ⟨_, Array.getElem?_eq_getElem (by omega)⟩
            have hjl2 : (j : Int) < 8 := by omega
            clear hd hq h1
            go_wp2
            go_roundw
            case rel => first | exact ⟨j + 1, d2.setIfInBounds (k * 266 + 258 + j) (.int .u8 ((k0 + (k : Int) * 10 + 1 + 1 + (j : Int)) % 256)), by omega, by go_num, by go_num, by repeat' (first | with_reducible exact Below.refl _ _ | with_reducible assumption | with_reducible refine Below.drew ?_ | with_reducible refine Below.drewN ?_ _ | with_reducible refine Below.alloc ?_ ?_ _ | with_reducible refine Below.setCell ?_ ?_ _ | with_reducible refine Below.setRow ?_ ?_ _ | with_reducible refine below_step (by assumption) ?_ ?_ | (show (_ : Nat) ≤ _; first | omega | (simp <;> omega))), by (go_simp <;> (intros; omega)), by (go_simp <;> (intros; omega)), by simp; omega, fun q hq1 hq2 => ⟨by go_simp <;> first | exact (HQ.out q hq1 hq2).1 | omega, by go_simp <;> first | exact (HQ.out q hq1 hq2).2 | omega⟩, H1.out⟩ | ((repeat (with_reducible apply Exists.intro)); refine And.intro ?_ ?_; rotate_left; (focus ((repeat' (with_reducible apply And.intro)) <;> rfl)); exact ⟨j + 1, d2.setIfInBounds (k * 266 + 258 + j) (.int .u8 ((k0 + (k : Int) * 10 + 1 + 1 + (j : Int)) % 256)), by omega, by go_num, by go_num, by repeat' (first | with_reducible exact Below.refl _ _ | with_reducible assumption | with_reducible refine Below.drew ?_ | with_reducible refine Below.drewN ?_ _ | with_reducible refine Below.alloc ?_ ?_ _ | with_reducible refine Below.setCell ?_ ?_ _ | with_reducible refine Below.setRow ?_ ?_ _ | with_reducible refine below_step (by assumption) ?_ ?_ | (show (_ : Nat) ≤ _; first | omega | (simp <;> omega))), by (go_simp <;> (intros; omega)), by (go_simp <;> (intros; omega)), by simp; omega, fun q hq1 hq2 => ⟨by go_simp <;> first | exact (HQ.out q hq1 hq2).1 | omega, by go_simp <;> first | exact (HQ.out q hq1 hq2).2 | omega⟩, H1.out⟩)
            case measure => simp [intOf]; omega
          · have hje : j = 8 := by omega
            subst hje
            have HD := Lib.hid hd
            clear hd hq
            go_wp2
            go_roundw
            case rel => first | exact ⟨k + 1, d2, by omega, by go_num, by go_num, by repeat' (first | with_reducible exact Below.refl _ _ | with_reducible assumption | with_reducible refine Below.drew ?_ | with_reducible refine Below.drewN ?_ _ | with_reducible refine Below.alloc ?_ ?_ _ | with_reducible refine Below.setCell ?_ ?_ _ | with_reducible refine Below.setRow ?_ ?_ _ | with_reducible refine below_step (by assumption) ?_ ?_ | (show (_ : Nat) ≤ _; first | omega | (simp <;> omega))), by (go_simp <;> (intros; omega)), by (go_simp <;> (intros; omega)), hds, fun q hq1 hq2 => ⟨by go_simp <;> first | exact (HQ.out q hq1 hq2).1 | omega, by go_simp <;> first | exact (HQ.out q hq1 hq2).2 | omega⟩, HD.out⟩ | ((repeat (with_reducible apply Exists.intro)); refine And.intro ?_ ?_; rotate_left; (focus ((repeat' (with_reducible apply And.intro)) <;> rfl)); exact ⟨k + 1, d2, by omega, by go_num, by go_num, by repeat' (first | with_reducible exact Below.refl _ _ | with_reducible assumption | with_reducible refine Below.drew ?_ | with_reducible refine Below.drewN ?_ _ | with_reducible refine Below.alloc ?_ ?_ _ | with_reducible refine Below.setCell ?_ ?_ _ | with_reducible refine Below.setRow ?_ ?_ _ | with_reducible refine below_step (by assumption) ?_ ?_ | (show (_ : Nat) ≤ _; first | omega | (simp <;> omega))), by (go_simp <;> (intros; omega)), by (go_simp <;> (intros; omega)), hds, fun q hq1 hq2 => ⟨by go_simp <;> first | exact (HQ.out q hq1 hq2).1 | omega, by go_simp <;> first | exact (HQ.out q hq1 hq2).2 | omega⟩, HD.out⟩)
            case measure => simp [intOf]; omega
      · have hke : k = n := by omega
        subst hke
        have HD := Lib.hid hd
        clear hd hq
        go_wp2
        go_ret
        exact ⟨rfl, below_le (by repeat' (first | with_reducible exact Below.refl _ _ | with_reducible assumption | with_reducible refine Below.drew ?_ | with_reducible refine Below.drewN ?_ _ | with_reducible refine Below.alloc ?_ ?_ _ | with_reducible refine Below.setCell ?_ ?_ _ | with_reducible refine Below.setRow ?_ ?_ _ | with_reducible refine below_step (by assumption) ?_ ?_ | (show (_ : Nat) ≤ _; first | omega | (simp <;> omega)))) hbg, .inr ⟨g, cap, rfl, hbg, (by first | omega | (simp <;> omega)), by (go_simp <;> (intros; omega)), by go_simp <;> omega, fun i hi j hj => by go_simp; exact HD.out i hi j hj⟩, fun s b2 v2 n2 V2 h ha => h.apart rfl ha hszw HQ.out⟩
set_option maxHeartbeats 4000000 in
theorem heldStack_own (v : Value) (n b : Nat) (F : Nat → Nat → Int) (k0 : Int) (hk0 : 0 ≤ k0 ∧ k0 ≤ 1099511627776) (hn : n < 1099511627776) (w : World) (h : OwnV 266 w b v n (shV (mkU k0 F (10 * n)))) :
    Calls Try.prog 12 #[v, .int .i64 k0] w fun e w' => e = .returned (.int .i64 (k0 + (n : Int) * 10)) ∧ Below w.heap.size w w' := by
  rcases Nat.eq_zero_or_pos n with hz | hp
  · subst hz
    obtain ⟨a1, c1, rfl⟩ := h.len
    clear h
    go_enter Try.func12, Try.ntmps12
    go_wp2
    go_loopw [5, 1] (fun i s wr => i = .int .i64 (0 : Nat) ∧ s = .int .i64 k0 ∧ Below w.heap.size w wr) (fun i s wr => 0)
    case atStart => exact ⟨rfl, rfl, by repeat' (first | with_reducible exact Below.refl _ _ | with_reducible assumption | with_reducible refine Below.drew ?_ | with_reducible refine Below.drewN ?_ _ | with_reducible refine Below.alloc ?_ ?_ _ | with_reducible refine Below.setCell ?_ ?_ _ | with_reducible refine Below.setRow ?_ ?_ _ | with_reducible refine below_step (by assumption) ?_ ?_ | (show (_ : Nat) ≤ _; first | omega | (simp <;> omega)))⟩
    case round =>
      obtain ⟨rfl, rfl, hb⟩ := hrel
      go_wp2
      go_ret
      exact ⟨by simp, by repeat' (first | with_reducible exact Below.refl _ _ | with_reducible assumption | with_reducible refine Below.drew ?_ | with_reducible refine Below.drewN ?_ _ | with_reducible refine Below.alloc ?_ ?_ _ | with_reducible refine Below.setCell ?_ ?_ _ | with_reducible refine Below.setRow ?_ ?_ _ | with_reducible refine below_step (by assumption) ?_ ?_ | (show (_ : Nat) ≤ _; first | omega | (simp <;> omega)))⟩
  · obtain ⟨g, cap, rfl, -, hg, -, -, ht⟩ := h.pos hp
    have HX := Lib.hid ht
    clear h ht
    go_enter Try.func12, Try.ntmps12
    go_wp2
    go_loopw [5, 1] (fun i s wr => ∃ k : Nat, k ≤ n ∧ i = .int .i64 k ∧ s = .int .i64 (k0 + (k : Int) * 10) ∧ Below w.heap.size w wr) (fun i s wr => n - (intOf i).toNat)
    case atStart => exact ⟨0, by omega, rfl, by simp, by repeat' (first | with_reducible exact Below.refl _ _ | with_reducible assumption | with_reducible refine Below.drew ?_ | with_reducible refine Below.drewN ?_ _ | with_reducible refine Below.alloc ?_ ?_ _ | with_reducible refine Below.setCell ?_ ?_ _ | with_reducible refine Below.setRow ?_ ?_ _ | with_reducible refine below_step (by assumption) ?_ ?_ | (show (_ : Nat) ≤ _; first | omega | (simp <;> omega)))⟩
    case round =>
      obtain ⟨k, hk, rfl, rfl, hb⟩ := hrel
      have hr1 := keep_row hb hg
      have hw1 : g < wr.heap.size := Nat.lt_of_lt_of_le hg hb.size
      by_cases hlt : k < n
      · have e1 := HX.out k hlt 0 (by omega)
        have e2 := HX.out k hlt 1 (by omega)
        rw [← hr1, mk_side hlt, Nat.add_zero] at e1
        rw [← hr1, mk_side1 hlt] at e2
        have hlt2 : (k : Int) < (n : Int) := by omega
        clear hr1
        go_wp2
        go_loopw [6, 1] (fun i s wx => ∃ j : Nat, j ≤ 8 ∧ i = .int .i64 j ∧ s = .int .i64 (k0 + (k : Int) * 10 + 1 + 1 + (j : Int)) ∧ Below w.heap.size w wx) (fun i s wx => 8 - (intOf i).toNat)
        case atStart => exact ⟨0, by omega, rfl, by simp, by repeat' (first | with_reducible exact Below.refl _ _ | with_reducible assumption | with_reducible refine Below.drew ?_ | with_reducible refine Below.drewN ?_ _ | with_reducible refine Below.alloc ?_ ?_ _ | with_reducible refine Below.setCell ?_ ?_ _ | with_reducible refine Below.setRow ?_ ?_ _ | with_reducible refine below_step (by assumption) ?_ ?_ | (show (_ : Nat) ≤ _; first | omega | (simp <;> omega)))⟩
        case round =>
          clear hb hw1 e1 e2
          obtain ⟨j, hj8, rfl, rfl, hb⟩ := hrel
          have hr1 := keep_row hb hg
          have hw1 : g < wr.heap.size := Nat.lt_of_lt_of_le hg hb.size
          by_cases hjl : j < 8
          · have e1 := HX.out k hlt (258 + j) (by omega)
            rw [← hr1, mk_wax hlt hjl, ← Nat.add_assoc] at e1
            have hjl2 : (j : Int) < 8 := by omega
            clear hr1
            go_wp2
            go_roundw
            case rel => first | exact ⟨j + 1, by omega, by go_num, by go_num, by repeat' (first | with_reducible exact Below.refl _ _ | with_reducible assumption | with_reducible refine Below.drew ?_ | with_reducible refine Below.drewN ?_ _ | with_reducible refine Below.alloc ?_ ?_ _ | with_reducible refine Below.setCell ?_ ?_ _ | with_reducible refine Below.setRow ?_ ?_ _ | with_reducible refine below_step (by assumption) ?_ ?_ | (show (_ : Nat) ≤ _; first | omega | (simp <;> omega)))⟩ | ((repeat (with_reducible apply Exists.intro)); refine And.intro ?_ ?_; rotate_left; (focus ((repeat' (with_reducible apply And.intro)) <;> rfl)); exact ⟨j + 1, by omega, by go_num, by go_num, by repeat' (first | with_reducible exact Below.refl _ _ | with_reducible assumption | with_reducible refine Below.drew ?_ | with_reducible refine Below.drewN ?_ _ | with_reducible refine Below.alloc ?_ ?_ _ | with_reducible refine Below.setCell ?_ ?_ _ | with_reducible refine Below.setRow ?_ ?_ _ | with_reducible refine below_step (by assumption) ?_ ?_ | (show (_ : Nat) ≤ _; first | omega | (simp <;> omega)))⟩)
            case measure => simp [intOf]; omega
          · have hje : j = 8 := by omega
            subst hje
            clear hr1
            go_wp2
            go_roundw
            case rel => first | exact ⟨k + 1, by omega, by go_num, by go_num, by repeat' (first | with_reducible exact Below.refl _ _ | with_reducible assumption | with_reducible refine Below.drew ?_ | with_reducible refine Below.drewN ?_ _ | with_reducible refine Below.alloc ?_ ?_ _ | with_reducible refine Below.setCell ?_ ?_ _ | with_reducible refine Below.setRow ?_ ?_ _ | with_reducible refine below_step (by assumption) ?_ ?_ | (show (_ : Nat) ≤ _; first | omega | (simp <;> omega)))⟩ | ((repeat (with_reducible apply Exists.intro)); refine And.intro ?_ ?_; rotate_left; (focus ((repeat' (with_reducible apply And.intro)) <;> rfl)); exact ⟨k + 1, by omega, by go_num, by go_num, by repeat' (first | with_reducible exact Below.refl _ _ | with_reducible assumption | with_reducible refine Below.drew ?_ | with_reducible refine Below.drewN ?_ _ | with_reducible refine Below.alloc ?_ ?_ _ | with_reducible refine Below.setCell ?_ ?_ _ | with_reducible refine Below.setRow ?_ ?_ _ | with_reducible refine below_step (by assumption) ?_ ?_ | (show (_ : Nat) ≤ _; first | omega | (simp <;> omega)))⟩)
            case measure => simp [intOf]; omega
      · have hke : k = n := by omega
        subst hke
        clear hr1
        go_wp2
        go_ret
        exact ⟨rfl, by repeat' (first | with_reducible exact Below.refl _ _ | with_reducible assumption | with_reducible refine Below.drew ?_ | with_reducible refine Below.drewN ?_ _ | with_reducible refine Below.alloc ?_ ?_ _ | with_reducible refine Below.setCell ?_ ?_ _ | with_reducible refine Below.setRow ?_ ?_ _ | with_reducible refine below_step (by assumption) ?_ ?_ | (show (_ : Nat) ≤ _; first | omega | (simp <;> omega)))⟩
end Go.Proofs.Ytkdfkhjoijfcdaa
