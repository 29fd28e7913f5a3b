/- The closures that ValidMarks puts to the places of a mark, and the library's search with each. Written by gen_vmarkc.py. -/
import Derived.Test.YtejnejplofddnaaGreatDoorGqC
import Derived.Test.YtejnejplofddnaaGreatDoorCell
import Derived.Test.YtejnejplofddnaaGreatDoorHeld
namespace Go.Proofs.YtejnejplofddnaaGreatDoor
open Go.RowKit
set_option linter.unusedVariables false
set_option linter.unusedSimpArgs false
set_option maxRecDepth 100000
def anyB (U : Nat → Bool) (n : Nat) : Bool := (List.range n).any U
theorem anyB_no {U : Nat → Bool} {n : Nat} (h : ∀ j, j < n → U j = false) : anyB U n = false := by
  unfold anyB
  rw [List.any_eq_false]
  intro j hj
  rw [h j (List.mem_range.1 hj)]; decide
theorem anyB_yes {U : Nat → Bool} {n j : Nat} (hj : j < n) (h : U j = true) : anyB U n = true := by
  unfold anyB
  rw [List.any_eq_true]
  exact ⟨j, List.mem_range.2 hj, h⟩
theorem anyB_all {U : Nat → Bool} {n : Nat} (h : anyB U n = false) : ∀ j, j < n → U j = false := fun j hj => by
  rcases Bool.eq_false_or_eq_true (U j) with g | g
  · rw [anyB_yes hj g] at h; cases h
  · exact g
theorem notHas_any (q p : Nat) (c : Nat → Int) (hfc : FitSheet c) (x y : Int) (hx : -128 ≤ x ∧ x ≤ 127) (hy : -128 ≤ y ∧ y ≤ 127) (w : World) (hq : rowOf w q = #[.pointer (some ⟨p, 0, none⟩)]) (hqs : q < w.heap.size) (hr : rowOf w p = kc sk 266 c) (hp : p < w.heap.size) :
    Calls Tryz.prog 103 #[.agg #[.int .i8 x, .int .i8 y], .pointer (some ⟨q, 0, none⟩)] w fun e w' => e = .returned (.bool (!(isP c x y))) ∧ Below w.heap.size w w' := by
  have HX := Lib.hid (fun w h1 h2 => has_any p c hfc x y hx hy w h1 h2)
  generalize isP c x y = b at *
  go_enter Tryz.func103, Tryz.ntmps103
  go_wp2_with ((go_at_call 99; refine (HX.out _ (by (go_simp <;> (intros; omega))) (by first | omega | (simp <;> omega))).mono ?_; rintro e w1 ⟨rfl, hb1⟩; have r1 := keep_rowA hb1; have f1 := keep_frA hb1; have s1 := hb1.size; (try simp only [World.size_alloc, World.size_setCell, setRow_size, World.size_drew, size_drewNm] at r1 f1 s1)))
  go_ret
  exact ⟨rfl, by repeat' (first | with_reducible exact Below.refl _ _ | with_reducible assumption | with_reducible refine Below.drew ?_ | with_reducible refine Below.drewN ?_ _ | with_reducible refine Below.alloc ?_ ?_ _ | with_reducible refine Below.setCell ?_ ?_ _ | with_reducible refine Below.setRow ?_ ?_ _ | with_reducible refine below_step (by assumption) ?_ ?_ | (show (_ : Nat) ≤ _; first | omega | (simp <;> omega)))⟩
set_option maxHeartbeats 4000000 in
theorem missingAt_any (q p : Nat) (c : Nat → Int) (hfc : FitSheet c) (v : Value) (n : Nat) (f : Nat → Int) (hn : n ≤ 1048576) (hf : ∀ j, j < n * 2 → -128 ≤ f j ∧ f j ≤ 127)  (w : World) (hq : rowOf w q = #[.pointer (some ⟨p, 0, none⟩)]) (hqs : q < w.heap.size) (hr : rowOf w p = kc sk 266 c) (hp : p < w.heap.size) (h : SlA .i8 2 w v n f) :
    Calls Tryz.prog 104 #[v, .func (.func 103) #[] #[.pointer (some ⟨q, 0, none⟩)]] w fun e w' => ∃ r : Int, e = .returned (.int .i64 r) ∧ decide (0 ≤ r) = anyB (fun j => !(isP c (f (j * 2)) (f (j * 2 + 1)))) n ∧ -1 ≤ r ∧ r ≤ n ∧ Below w.heap.size w w' := by
  have HH := Lib.hid h
  obtain ⟨a, cap, rfl⟩ := h.len
  have HF := Lib.hid hf
  clear h hf
  go_enter Tryz.func104, Tryz.ntmps104
  go_wp2
  go_loopw [8] (fun i wr => ∃ k : Nat, k ≤ n ∧ i = .int .i64 k ∧ Below w.heap.size w wr ∧ ∀ j, j < k → (fun j => !(isP c (f (j * 2)) (f (j * 2 + 1)))) j = false) (fun i wr => n + 1 - (intOf i).toNat)
  case atStart => exact ⟨0, by omega, rfl, by repeat' (first | with_reducible exact Below.refl _ _ | with_reducible assumption | with_reducible refine Below.drew ?_ | with_reducible refine Below.drewN ?_ _ | with_reducible refine Below.alloc ?_ ?_ _ | with_reducible refine Below.setCell ?_ ?_ _ | with_reducible refine Below.setRow ?_ ?_ _ | with_reducible refine below_step (by assumption) ?_ ?_ | (show (_ : Nat) ≤ _; first | omega | (simp <;> omega))), fun j h1 => by omega⟩
  case round =>
    obtain ⟨k, hk1, rfl, hb, hin⟩ := hrel
    have hsz := hb.size
    have HIN := Lib.hid hin
    clear hin
    by_cases hlt : k < n
    · obtain ⟨g, o, cap', hv, hg, hcells⟩ := HH.out.pos (by omega)
      simp only [Value.slice.injEq] at hv
      obtain ⟨rfl, -, rfl⟩ := hv
      have e1 := hcells (k * 2) (by omega)
      have e2 := hcells (k * 2 + 1) (by omega)
      rw [← Nat.add_assoc] at e2
      have hr1 := keep_row hb hg
      rw [← hr1] at e1 e2
      have hgw : g < wr.heap.size := by omega
      have hlt2 : (k : Int) < (n : Int) := by omega
      have hw1 : IntKind.i64.wrap ((k : Int) + 1) = ((k + 1 : Nat) : Int) := by rw [IntWalk.i64_in _ (by omega)]; rfl
      have hX := HF.out (k * 2) (by omega)
      have hY := HF.out (k * 2 + 1) (by omega)
      have hU0 : (fun j => !(isP c (f (j * 2)) (f (j * 2 + 1)))) k = (fun j => !(isP c (f (j * 2)) (f (j * 2 + 1)))) k := rfl
      have hqr := (keep_row hb hqs).trans hq
      have hpr := (keep_row hb hp).trans hr
      have hqw : q < wr.heap.size := by omega
      have hpw : p < wr.heap.size := by omega
      have hOS := fun w2 h1 h2 h3 h4 => notHas_any q p c hfc (f (k * 2)) (f (k * 2 + 1)) hX hY w2 h1 h2 h3 h4
      clear hr1 hcells
      rcases Bool.eq_false_or_eq_true ((fun j => !(isP c (f (j * 2)) (f (j * 2 + 1)))) k) with hs | hs
      · have HN := Lib.hid (anyB_yes (U := fun j => !(isP c (f (j * 2)) (f (j * 2 + 1)))) hlt hs)
        change (!(isP c (f (k * 2)) (f (k * 2 + 1)))) = true at hs
        rw [hs] at hOS
        have HOS := Lib.hid hOS
        clear hOS hs hU0
        generalize f (k * 2) = x at *
        generalize f (k * 2 + 1) = y at *
        go_wp2_with ((go_at_call 103; refine (HOS.out _ (by (go_simp <;> (intros; omega))) (by first | omega | (simp <;> omega)) (by (go_simp <;> (intros; omega))) (by first | omega | (simp <;> omega))).mono ?_; rintro e w1 ⟨rfl, hb1⟩; have r1 := keep_rowA hb1; have f1 := keep_frA hb1; have s1 := hb1.size; (try simp only [World.size_alloc, World.size_setCell, setRow_size, World.size_drew, size_drewNm] at r1 f1 s1)))
        go_ret
        exact ⟨k, rfl, by rw [HN.out]; exact decide_eq_true (by omega), by omega, by omega, by repeat' (first | with_reducible exact Below.refl _ _ | with_reducible assumption | with_reducible refine Below.drew ?_ | with_reducible refine Below.drewN ?_ _ | with_reducible refine Below.alloc ?_ ?_ _ | with_reducible refine Below.setCell ?_ ?_ _ | with_reducible refine Below.setRow ?_ ?_ _ | with_reducible refine below_step (by assumption) ?_ ?_ | (show (_ : Nat) ≤ _; first | omega | (simp <;> omega)))⟩
      · have HN := Lib.hid (show ∀ j, j < k + 1 → (fun j => !(isP c (f (j * 2)) (f (j * 2 + 1)))) j = false from fun j hj => by
          rcases Nat.lt_succ_iff_lt_or_eq.1 hj with h | rfl
          · exact HIN.out j h
          · exact hs)
        change (!(isP c (f (k * 2)) (f (k * 2 + 1)))) = false at hs
        rw [hs] at hOS
        have HOS := Lib.hid hOS
        clear hOS hs hU0
        generalize f (k * 2) = x at e1 e2 HOS
        generalize f (k * 2 + 1) = y at e1 e2 HOS
        go_wp2_with ((go_at_call 103; refine (HOS.out _ (by (go_simp <;> (intros; omega))) (by first | omega | (simp <;> omega)) (by (go_simp <;> (intros; omega))) (by first | omega | (simp <;> omega))).mono ?_; rintro e w1 ⟨rfl, hb1⟩; have r1 := keep_rowA hb1; have f1 := keep_frA hb1; have s1 := hb1.size; (try simp only [World.size_alloc, World.size_setCell, setRow_size, World.size_drew, size_drewNm] at r1 f1 s1)))
        go_roundw
        case rel => first | exact ⟨k + 1, by omega, by go_num, by repeat' (first | with_reducible exact Below.refl _ _ | with_reducible assumption | with_reducible refine Below.drew ?_ | with_reducible refine Below.drewN ?_ _ | with_reducible refine Below.alloc ?_ ?_ _ | with_reducible refine Below.setCell ?_ ?_ _ | with_reducible refine Below.setRow ?_ ?_ _ | with_reducible refine below_step (by assumption) ?_ ?_ | (show (_ : Nat) ≤ _; first | omega | (simp <;> omega))), HN.out⟩ | ((repeat (with_reducible apply Exists.intro)); refine And.intro ?_ ?_; rotate_left; (focus ((repeat' (with_reducible apply And.intro)) <;> rfl)); exact ⟨k + 1, by omega, by go_num, by repeat' (first | with_reducible exact Below.refl _ _ | with_reducible assumption | with_reducible refine Below.drew ?_ | with_reducible refine Below.drewN ?_ _ | with_reducible refine Below.alloc ?_ ?_ _ | with_reducible refine Below.setCell ?_ ?_ _ | with_reducible refine Below.setRow ?_ ?_ _ | with_reducible refine below_step (by assumption) ?_ ?_ | (show (_ : Nat) ≤ _; first | omega | (simp <;> omega))), HN.out⟩)
        case measure => simp [intOf] <;> omega
    · have hke : k = n := by omega
      subst hke
      have HV := Lib.hid (anyB_no HIN.out)
      go_wp2
      go_ret
      exact ⟨-1, rfl, by rw [HV.out]; rfl, by omega, by omega, by repeat' (first | with_reducible exact Below.refl _ _ | with_reducible assumption | with_reducible refine Below.drew ?_ | with_reducible refine Below.drewN ?_ _ | with_reducible refine Below.alloc ?_ ?_ _ | with_reducible refine Below.setCell ?_ ?_ _ | with_reducible refine Below.setRow ?_ ?_ _ | with_reducible refine below_step (by assumption) ?_ ?_ | (show (_ : Nat) ≤ _; first | omega | (simp <;> omega)))⟩
theorem missing_any (q p : Nat) (c : Nat → Int) (hfc : FitSheet c) (v : Value) (n : Nat) (f : Nat → Int) (hn : n ≤ 1048576) (hf : ∀ j, j < n * 2 → -128 ≤ f j ∧ f j ≤ 127)  (w : World) (hq : rowOf w q = #[.pointer (some ⟨p, 0, none⟩)]) (hqs : q < w.heap.size) (hr : rowOf w p = kc sk 266 c) (hp : p < w.heap.size) (h : SlA .i8 2 w v n f) :
    Calls Tryz.prog 60 #[v, .func (.func 103) #[] #[.pointer (some ⟨q, 0, none⟩)]] w fun e w' => e = .returned (.bool (anyB (fun j => !(isP c (f (j * 2)) (f (j * 2 + 1)))) n)) ∧ Below w.heap.size w w' := by
  have HX := Lib.hid (missingAt_any q p c hfc v n f hn hf w hq hqs hr hp h)
  generalize hb : anyB (fun j => !(isP c (f (j * 2)) (f (j * 2 + 1)))) n = b at *
  clear hb h
  go_enter Tryz.func60, Tryz.ntmps60
  go_wp2_with (go_at_call 104; refine HX.out.mono ?_; rintro e w1 ⟨k, rfl, hk, hk1, hk2, hb1⟩)
  go_ret
  exact ⟨by rw [← hk]; rfl, by repeat' (first | with_reducible exact Below.refl _ _ | with_reducible assumption | with_reducible refine Below.drew ?_ | with_reducible refine Below.drewN ?_ _ | with_reducible refine Below.alloc ?_ ?_ _ | with_reducible refine Below.setCell ?_ ?_ _ | with_reducible refine Below.setRow ?_ ?_ _ | with_reducible refine below_step (by assumption) ?_ ?_ | (show (_ : Nat) ≤ _; first | omega | (simp <;> omega)))⟩
set_option maxHeartbeats 4000000 in
theorem waxAnyAt_any (p : Nat) (c : Nat → Int) (hfc : FitSheet c) (v : Value) (n : Nat) (f : Nat → Int) (hn : n ≤ 1048576) (hf : ∀ j, j < n * 2 → -128 ≤ f j ∧ f j ≤ 127) (hin : ∀ j, j < n → ∃ x y : Nat, x < 8 ∧ y < 8 ∧ f (j * 2) = x ∧ f (j * 2 + 1) = y) (w : World) (hr : rowOf w p = kc sk 266 c) (hp : p < w.heap.size) (h : SlA .i8 2 w v n f) :
    Calls Tryz.prog 104 #[v, .func (.func 61) #[.pointer (some ⟨p, 0, none⟩)] #[]] w fun e w' => ∃ r : Int, e = .returned (.int .i64 r) ∧ decide (0 ≤ r) = anyB (fun j => waxS c (f (j * 2)).toNat (f (j * 2 + 1)).toNat) n ∧ -1 ≤ r ∧ r ≤ n ∧ Below w.heap.size w w' := by
  have HH := Lib.hid h
  obtain ⟨a, cap, rfl⟩ := h.len
  have HF := Lib.hid hf
  clear h hf
  go_enter Tryz.func104, Tryz.ntmps104
  go_wp2
  go_loopw [8] (fun i wr => ∃ k : Nat, k ≤ n ∧ i = .int .i64 k ∧ Below w.heap.size w wr ∧ ∀ j, j < k → (fun j => waxS c (f (j * 2)).toNat (f (j * 2 + 1)).toNat) j = false) (fun i wr => n + 1 - (intOf i).toNat)
  case atStart => exact ⟨0, by omega, rfl, by repeat' (first | with_reducible exact Below.refl _ _ | with_reducible assumption | with_reducible refine Below.drew ?_ | with_reducible refine Below.drewN ?_ _ | with_reducible refine Below.alloc ?_ ?_ _ | with_reducible refine Below.setCell ?_ ?_ _ | with_reducible refine Below.setRow ?_ ?_ _ | with_reducible refine below_step (by assumption) ?_ ?_ | (show (_ : Nat) ≤ _; first | omega | (simp <;> omega))), fun j h1 => by omega⟩
  case round =>
    obtain ⟨k, hk1, rfl, hb, hin⟩ := hrel
    have hsz := hb.size
    have HIN := Lib.hid hin
    clear hin
    by_cases hlt : k < n
    · obtain ⟨g, o, cap', hv, hg, hcells⟩ := HH.out.pos (by omega)
      simp only [Value.slice.injEq] at hv
      obtain ⟨rfl, -, rfl⟩ := hv
      have e1 := hcells (k * 2) (by omega)
      have e2 := hcells (k * 2 + 1) (by omega)
      rw [← Nat.add_assoc] at e2
      have hr1 := keep_row hb hg
      rw [← hr1] at e1 e2
      have hgw : g < wr.heap.size := by omega
      have hlt2 : (k : Int) < (n : Int) := by omega
      have hw1 : IntKind.i64.wrap ((k : Int) + 1) = ((k + 1 : Nat) : Int) := by rw [IntWalk.i64_in _ (by omega)]; rfl
      have hX := HF.out (k * 2) (by omega)
      have hY := HF.out (k * 2 + 1) (by omega)
      have hU0 : (fun j => waxS c (f (j * 2)).toNat (f (j * 2 + 1)).toNat) k = (fun j => waxS c (f (j * 2)).toNat (f (j * 2 + 1)).toNat) k := rfl
      have hpr := (keep_row hb hp).trans hr
      have hpw : p < wr.heap.size := by omega
      obtain ⟨x0, y0, hx8, hy8, hx0, hy0⟩ := hin k hlt
      have hOS : ∀ w2 : World, rowOf w2 p = kc sk 266 c → p < w2.heap.size → Calls Tryz.prog 61 #[.pointer (some ⟨p, 0, none⟩), .agg #[.int .i8 (f (k * 2)), .int .i8 (f (k * 2 + 1))]] w2 fun e w' => e = .returned (.bool (waxS c (f (k * 2)).toNat (f (k * 2 + 1)).toNat)) ∧ Below w2.heap.size w2 w' := fun w2 h1 h2 => by
        rw [hx0, hy0]
        exact waxed_any p c hfc x0 y0 hx8 hy8 w2 h1 h2
      clear hx0 hy0
      clear hr1 hcells
      rcases Bool.eq_false_or_eq_true ((fun j => waxS c (f (j * 2)).toNat (f (j * 2 + 1)).toNat) k) with hs | hs
      · have HN := Lib.hid (anyB_yes (U := fun j => waxS c (f (j * 2)).toNat (f (j * 2 + 1)).toNat) hlt hs)
        change waxS c (f (k * 2)).toNat (f (k * 2 + 1)).toNat = true at hs
        rw [hs] at hOS
        have HOS := Lib.hid hOS
        clear hOS hs hU0
        generalize f (k * 2) = x at *
        generalize f (k * 2 + 1) = y at *
        go_wp2_with ((go_at_call 61; refine (HOS.out _ (by (go_simp <;> (intros; omega))) (by first | omega | (simp <;> omega))).mono ?_; rintro e w1 ⟨rfl, hb1⟩; have r1 := keep_rowA hb1; have f1 := keep_frA hb1; have s1 := hb1.size; (try simp only [World.size_alloc, World.size_setCell, setRow_size, World.size_drew, size_drewNm] at r1 f1 s1)))
        go_ret
        exact ⟨k, rfl, by rw [HN.out]; exact decide_eq_true (by omega), by omega, by omega, by repeat' (first | with_reducible exact Below.refl _ _ | with_reducible assumption | with_reducible refine Below.drew ?_ | with_reducible refine Below.drewN ?_ _ | with_reducible refine Below.alloc ?_ ?_ _ | with_reducible refine Below.setCell ?_ ?_ _ | with_reducible refine Below.setRow ?_ ?_ _ | with_reducible refine below_step (by assumption) ?_ ?_ | (show (_ : Nat) ≤ _; first | omega | (simp <;> omega)))⟩
      · have HN := Lib.hid (show ∀ j, j < k + 1 → (fun j => waxS c (f (j * 2)).toNat (f (j * 2 + 1)).toNat) j = false from fun j hj => by
          rcases Nat.lt_succ_iff_lt_or_eq.1 hj with h | rfl
          · exact HIN.out j h
          · exact hs)
        change waxS c (f (k * 2)).toNat (f (k * 2 + 1)).toNat = false at hs
        rw [hs] at hOS
        have HOS := Lib.hid hOS
        clear hOS hs hU0
        generalize f (k * 2) = x at e1 e2 HOS
        generalize f (k * 2 + 1) = y at e1 e2 HOS
        go_wp2_with ((go_at_call 61; refine (HOS.out _ (by (go_simp <;> (intros; omega))) (by first | omega | (simp <;> omega))).mono ?_; rintro e w1 ⟨rfl, hb1⟩; have r1 := keep_rowA hb1; have f1 := keep_frA hb1; have s1 := hb1.size; (try simp only [World.size_alloc, World.size_setCell, setRow_size, World.size_drew, size_drewNm] at r1 f1 s1)))
        go_roundw
        case rel => first | exact ⟨k + 1, by omega, by go_num, by repeat' (first | with_reducible exact Below.refl _ _ | with_reducible assumption | with_reducible refine Below.drew ?_ | with_reducible refine Below.drewN ?_ _ | with_reducible refine Below.alloc ?_ ?_ _ | with_reducible refine Below.setCell ?_ ?_ _ | with_reducible refine Below.setRow ?_ ?_ _ | with_reducible refine below_step (by assumption) ?_ ?_ | (show (_ : Nat) ≤ _; first | omega | (simp <;> omega))), HN.out⟩ | ((repeat (with_reducible apply Exists.intro)); refine And.intro ?_ ?_; rotate_left; (focus ((repeat' (with_reducible apply And.intro)) <;> rfl)); exact ⟨k + 1, by omega, by go_num, by repeat' (first | with_reducible exact Below.refl _ _ | with_reducible assumption | with_reducible refine Below.drew ?_ | with_reducible refine Below.drewN ?_ _ | with_reducible refine Below.alloc ?_ ?_ _ | with_reducible refine Below.setCell ?_ ?_ _ | with_reducible refine Below.setRow ?_ ?_ _ | with_reducible refine below_step (by assumption) ?_ ?_ | (show (_ : Nat) ≤ _; first | omega | (simp <;> omega))), HN.out⟩)
        case measure => simp [intOf] <;> omega
    · have hke : k = n := by omega
      subst hke
      have HV := Lib.hid (anyB_no HIN.out)
      go_wp2
      go_ret
      exact ⟨-1, rfl, by rw [HV.out]; rfl, by omega, by omega, by repeat' (first | with_reducible exact Below.refl _ _ | with_reducible assumption | with_reducible refine Below.drew ?_ | with_reducible refine Below.drewN ?_ _ | with_reducible refine Below.alloc ?_ ?_ _ | with_reducible refine Below.setCell ?_ ?_ _ | with_reducible refine Below.setRow ?_ ?_ _ | with_reducible refine below_step (by assumption) ?_ ?_ | (show (_ : Nat) ≤ _; first | omega | (simp <;> omega)))⟩
theorem waxAny_any (p : Nat) (c : Nat → Int) (hfc : FitSheet c) (v : Value) (n : Nat) (f : Nat → Int) (hn : n ≤ 1048576) (hf : ∀ j, j < n * 2 → -128 ≤ f j ∧ f j ≤ 127) (hin : ∀ j, j < n → ∃ x y : Nat, x < 8 ∧ y < 8 ∧ f (j * 2) = x ∧ f (j * 2 + 1) = y) (w : World) (hr : rowOf w p = kc sk 266 c) (hp : p < w.heap.size) (h : SlA .i8 2 w v n f) :
    Calls Tryz.prog 60 #[v, .func (.func 61) #[.pointer (some ⟨p, 0, none⟩)] #[]] w fun e w' => e = .returned (.bool (anyB (fun j => waxS c (f (j * 2)).toNat (f (j * 2 + 1)).toNat) n)) ∧ Below w.heap.size w w' := by
  have HX := Lib.hid (waxAnyAt_any p c hfc v n f hn hf hin w hr hp h)
  generalize hb : anyB (fun j => waxS c (f (j * 2)).toNat (f (j * 2 + 1)).toNat) n = b at *
  clear hb h
  go_enter Tryz.func60, Tryz.ntmps60
  go_wp2_with (go_at_call 104; refine HX.out.mono ?_; rintro e w1 ⟨k, rfl, hk, hk1, hk2, hb1⟩)
  go_ret
  exact ⟨by rw [← hk]; rfl, by repeat' (first | with_reducible exact Below.refl _ _ | with_reducible assumption | with_reducible refine Below.drew ?_ | with_reducible refine Below.drewN ?_ _ | with_reducible refine Below.alloc ?_ ?_ _ | with_reducible refine Below.setCell ?_ ?_ _ | with_reducible refine Below.setRow ?_ ?_ _ | with_reducible refine below_step (by assumption) ?_ ?_ | (show (_ : Nat) ≤ _; first | omega | (simp <;> omega)))⟩
end Go.Proofs.YtejnejplofddnaaGreatDoor
