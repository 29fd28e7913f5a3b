/- The statement's own functions at slices of strings. Written by gen_strs.py. -/
import Derived.Test.YtifhffnppgkjgaaGreatDoorNumS
namespace Go.Proofs.YtifhffnppgkjgaaGreatDoor
open Go.RowKit
set_option linter.unusedVariables false
set_option linter.unusedSimpArgs false
set_option maxRecDepth 100000
set_option maxHeartbeats 4000000 in
theorem eqStringS_any (v1 v2 : Value) (b1 b2 : Nat) (A B : List (List UInt8)) (hA : A.length ≤ 1048576) (hB : B.length ≤ 1048576) (w : World) (h1 : OwnT w b1 v1 A) (h2 : OwnT w b2 v2 B) :
    Calls Tryz.prog 15 #[v1, v2] w fun e w' => e = .returned (.bool (eqL A B)) ∧ Below w.heap.size w w' := by
  have H1 := Lib.hid h1
  have H2 := Lib.hid h2
  obtain ⟨a1, c1, rfl⟩ := h1.len
  obtain ⟨a2, c2, rfl⟩ := h2.len
  clear h1 h2
  by_cases hne : A.length = B.length
  case neg =>
    have hn1 : ((A.length : Int) == (B.length : Int)) = false := by rw [beq_eq_false_iff_ne]; omega
    have hn2 : ¬ (A.length : Int) = (B.length : Int) := by omega
    have hn3 : ((A.length : Int) != (B.length : Int)) = true := by rw [bne, hn1]; rfl
    have HV := Lib.hid (eqL_len hne)
    go_enter Tryz.func15, Tryz.ntmps15
    go_wp2
    go_ret
    exact ⟨by rw [HV.out]; rfl, by repeat' (first | with_reducible exact Below.refl _ _ | with_reducible assumption | with_reducible refine Below.drew ?_ | with_reducible refine Below.drewN ?_ _ | with_reducible refine Below.alloc ?_ ?_ _ | with_reducible refine Below.setCell ?_ ?_ _ | with_reducible refine Below.setRow ?_ ?_ _ | with_reducible refine below_step (by assumption) ?_ ?_ | (show (_ : Nat) ≤ _; first | omega | (simp <;> omega)))⟩
  have HE := Lib.hid (fun ha => eqL_all (A := A) (B := B) hne ha)
  have HO := Lib.hid (fun j a b (ha : A[j]? = some a) (hb : B[j]? = some b) (hn : a ≠ b) => eqL_no ha hb hn)
  have hnB : ((A.length : Int) != (B.length : Int)) = false := by rw [show (A.length : Int) = (B.length : Int) by omega]; simp
  go_enter Tryz.func15, Tryz.ntmps15
  go_wp2
  go_loopw [5] (fun z wr => ∃ k : Nat, k ≤ A.length ∧ z = .int .i64 k ∧ Below w.heap.size w wr ∧ ∀ j a b, j < k → A[j]? = some a → B[j]? = some b → a = b) (fun z wr => A.length + 1 - (intOf z).toNat)
  case atStart => exact ⟨0, by omega, rfl, by repeat' (first | with_reducible exact Below.refl _ _ | with_reducible assumption | with_reducible refine Below.drew ?_ | with_reducible refine Below.drewN ?_ _ | with_reducible refine Below.alloc ?_ ?_ _ | with_reducible refine Below.setCell ?_ ?_ _ | with_reducible refine Below.setRow ?_ ?_ _ | with_reducible refine below_step (by assumption) ?_ ?_ | (show (_ : Nat) ≤ _; first | omega | (simp <;> omega))), fun j a b hj => absurd hj (by omega)⟩
  case round =>
    obtain ⟨k, hk, rfl, hb, hal⟩ := hrel
    have HAL := Lib.hid hal
    clear hal
    by_cases hlt : k < A.length
    · obtain ⟨xa, hxa⟩ : ∃ x, A[k]? = some x := ⟨_, List.getElem?_eq_getElem hlt⟩
      obtain ⟨xb, hxb⟩ : ∃ x, B[k]? = some x := ⟨_, List.getElem?_eq_getElem (by omega)⟩
      obtain ⟨g1, c1', hv, hg1, hs1, hc1⟩ := H1.out.at (by omega)
      simp only [Value.slice.injEq] at hv
      obtain ⟨rfl, -, rfl⟩ := hv
      obtain ⟨g2, c2', hv, hg2, hs2, hc2⟩ := H2.out.at (by omega)
      simp only [Value.slice.injEq] at hv
      obtain ⟨rfl, -, rfl⟩ := hv
      have e1 := hc1 k xa hxa
      have e2 := hc2 k xb hxb
      rw [← keep_row hb hg1] at e1
      rw [← keep_row hb hg2] at e2
      have hg1w : g1 < wr.heap.size := by have := hb.size; omega
      have hg2w : g2 < wr.heap.size := by have := hb.size; omega
      have hlt2 : (k : Int) < (A.length : Int) := by omega
      have hlt3 : k < B.length := by omega
      have hlt4 : (k : Int) < (B.length : Int) := by omega
      have hw1 : IntKind.i64.wrap ((k : Int) + 1) = ((k + 1 : Nat) : Int) := by rw [IntWalk.i64_in _ (by omega)]; rfl
      clear hc1 hc2 hs1 hs2 hg1 hg2
      by_cases hx : xa = xb
      · subst hx
        have HN := Lib.hid (show ∀ j a b, j < k + 1 → A[j]? = some a → B[j]? = some b → a = b from fun j a b hj ha hb => by
          rcases Nat.lt_succ_iff_lt_or_eq.1 hj with h | rfl
          · exact HAL.out j a b h ha hb
          · rw [hxa] at ha; rw [hxb] at hb
            exact (Option.some.inj ha).symm.trans (Option.some.inj hb))
        clear hxa hxb
        go_wp2
        go_quiet (fail)
        go_wp2
        go_roundw
        case rel => first | exact ⟨k + 1, by omega, by go_num, by repeat' (first | with_reducible exact Below.refl _ _ | with_reducible assumption | with_reducible refine Below.drew ?_ | with_reducible refine Below.drewN ?_ _ | with_reducible refine Below.alloc ?_ ?_ _ | with_reducible refine Below.setCell ?_ ?_ _ | with_reducible refine Below.setRow ?_ ?_ _ | with_reducible refine below_step (by assumption) ?_ ?_ | (show (_ : Nat) ≤ _; first | omega | (simp <;> omega))), HN.out⟩ | ((repeat (with_reducible apply Exists.intro)); refine And.intro ?_ ?_; rotate_left; (focus ((repeat' (with_reducible apply And.intro)) <;> rfl)); exact ⟨k + 1, by omega, by go_num, by repeat' (first | with_reducible exact Below.refl _ _ | with_reducible assumption | with_reducible refine Below.drew ?_ | with_reducible refine Below.drewN ?_ _ | with_reducible refine Below.alloc ?_ ?_ _ | with_reducible refine Below.setCell ?_ ?_ _ | with_reducible refine Below.setRow ?_ ?_ _ | with_reducible refine below_step (by assumption) ?_ ?_ | (show (_ : Nat) ≤ _; first | omega | (simp <;> omega))), HN.out⟩)
        case measure => simp [intOf]; omega
      · have HV := Lib.hid (HO.out k xa xb hxa hxb hx)
        have h1 : ((tx xa).toList == (tx xb).toList) = false := by rw [tx_list, tx_list, beq_eq_false_iff_ne]; exact hx
        clear hxa hxb
        go_wp2
        go_quiet (fail)
        go_wp2
        go_ret
        exact ⟨by rw [HV.out]; rfl, by repeat' (first | with_reducible exact Below.refl _ _ | with_reducible assumption | with_reducible refine Below.drew ?_ | with_reducible refine Below.drewN ?_ _ | with_reducible refine Below.alloc ?_ ?_ _ | with_reducible refine Below.setCell ?_ ?_ _ | with_reducible refine Below.setRow ?_ ?_ _ | with_reducible refine below_step (by assumption) ?_ ?_ | (show (_ : Nat) ≤ _; first | omega | (simp <;> omega)))⟩
    · have hke : k = A.length := by omega
      subst hke
      have HV := Lib.hid (HE.out (fun j a b hj ha hb => HAL.out j a b hj ha hb))
      go_wp2
      go_ret
      exact ⟨by rw [HV.out]; rfl, by repeat' (first | with_reducible exact Below.refl _ _ | with_reducible assumption | with_reducible refine Below.drew ?_ | with_reducible refine Below.drewN ?_ _ | with_reducible refine Below.alloc ?_ ?_ _ | with_reducible refine Below.setCell ?_ ?_ _ | with_reducible refine Below.setRow ?_ ?_ _ | with_reducible refine below_step (by assumption) ?_ ?_ | (show (_ : Nat) ≤ _; first | omega | (simp <;> omega)))⟩
set_option maxHeartbeats 2000000 in
theorem szStringS_any (v : Value) (L : List (List UInt8)) (hL : L.length ≤ 9223372036854775807) (hx : ∀ x ∈ L, x.length ≤ 9223372036854775807) (q : Int) (hq : 0 ≤ q ∧ q ≤ 1048576) (w : World) (h : SlT w v L) :
    Calls Tryz.prog 8 #[v, .int .i64 q] w fun e w' => ∃ r : Int, e = .returned (.int .i64 r) ∧ (r < 0 ∨ (0 ≤ r ∧ L.length ≤ 1048576)) ∧ -1 ≤ r ∧ Below w.heap.size w w' := by
  have HH := Lib.hid h
  have HX := Lib.hid hx
  obtain ⟨a, cap, rfl⟩ := h.len
  clear h hx
  have hw0 : IntKind.i64.wrap (q - (L.length : Int)) = q - (L.length : Int) := IntWalk.i64_in _ (by omega)
  by_cases hbig : q < (L.length : Int)
  · have h2 : q - (L.length : Int) < 0 := by omega
    clear hbig
    go_enter Tryz.func8, Tryz.ntmps8
    go_wp2
    go_ret
    exact ⟨-1, rfl, .inl (by omega), by omega, by repeat' (first | with_reducible exact Below.refl _ _ | with_reducible assumption | with_reducible refine Below.drew ?_ | with_reducible refine Below.drewN ?_ _ | with_reducible refine Below.alloc ?_ ?_ _ | with_reducible refine Below.setCell ?_ ?_ _ | with_reducible refine Below.setRow ?_ ?_ _ | with_reducible refine below_step (by assumption) ?_ ?_ | (show (_ : Nat) ≤ _; first | omega | (simp <;> omega)))⟩
  · have h2 : ¬ q - (L.length : Int) < 0 := by omega
    have hn2 : L.length ≤ 1048576 := by omega
    go_enter Tryz.func8, Tryz.ntmps8
    go_wp2
    go_loopw [5, 1] (fun i s wr => ∃ (k : Nat) (l : Int), k ≤ L.length ∧ i = .int .i64 k ∧ s = .int .i64 l ∧ (0 ≤ l ∧ l ≤ 1048576) ∧ Below w.heap.size w wr) (fun i s wr => L.length - (intOf i).toNat)
    case atStart => exact ⟨0, q - (L.length : Int), by omega, rfl, rfl, by omega, by repeat' (first | with_reducible exact Below.refl _ _ | with_reducible assumption | with_reducible refine Below.drew ?_ | with_reducible refine Below.drewN ?_ _ | with_reducible refine Below.alloc ?_ ?_ _ | with_reducible refine Below.setCell ?_ ?_ _ | with_reducible refine Below.setRow ?_ ?_ _ | with_reducible refine below_step (by assumption) ?_ ?_ | (show (_ : Nat) ≤ _; first | omega | (simp <;> omega)))⟩
    case round =>
      obtain ⟨k, l, hk, rfl, rfl, hl, hb⟩ := hrel
      have hsz0 := hb.size
      by_cases hlt : k < L.length
      · obtain ⟨g, o, cap', hv, hg, hRs, hc⟩ := HH.out.at (by omega)
        simp only [Value.slice.injEq] at hv
        obtain ⟨rfl, -, rfl⟩ := hv
        obtain ⟨x, hx⟩ : ∃ x, L[k]? = some x := ⟨_, List.getElem?_eq_getElem hlt⟩
        have e0 := hc k x hx
        rw [← keep_row hb hg] at e0 hRs
        have hgw : g < wr.heap.size := by omega
        have hxl := HX.out x (List.mem_of_getElem? hx)
        have hlt2 : (k : Int) < (L.length : Int) := by omega
        have hw1 : IntKind.i64.wrap ((k : Int) + 1) = ((k + 1 : Nat) : Int) := by rw [IntWalk.i64_in _ (by omega)]; rfl
        have hw2 : IntKind.i64.wrap (l - (x.length : Int)) = l - (x.length : Int) := IntWalk.i64_in _ (by omega)
        clear hc hx h2 hw0
        by_cases hs : l - (x.length : Int) < 0
        · go_wp2
          go_ret
          exact ⟨-1, rfl, .inl (by omega), by omega, by repeat' (first | with_reducible exact Below.refl _ _ | with_reducible assumption | with_reducible refine Below.drew ?_ | with_reducible refine Below.drewN ?_ _ | with_reducible refine Below.alloc ?_ ?_ _ | with_reducible refine Below.setCell ?_ ?_ _ | with_reducible refine Below.setRow ?_ ?_ _ | with_reducible refine below_step (by assumption) ?_ ?_ | (show (_ : Nat) ≤ _; first | omega | (simp <;> omega)))⟩
        · go_wp2
          go_roundw
          case rel => first | exact ⟨k + 1, l - (x.length : Int), by omega, by go_num, rfl, by omega, by repeat' (first | with_reducible exact Below.refl _ _ | with_reducible assumption | with_reducible refine Below.drew ?_ | with_reducible refine Below.drewN ?_ _ | with_reducible refine Below.alloc ?_ ?_ _ | with_reducible refine Below.setCell ?_ ?_ _ | with_reducible refine Below.setRow ?_ ?_ _ | with_reducible refine below_step (by assumption) ?_ ?_ | (show (_ : Nat) ≤ _; first | omega | (simp <;> omega)))⟩ | ((repeat (with_reducible apply Exists.intro)); refine And.intro ?_ ?_; rotate_left; (focus ((repeat' (with_reducible apply And.intro)) <;> rfl)); exact ⟨k + 1, l - (x.length : Int), by omega, by go_num, rfl, by omega, by repeat' (first | with_reducible exact Below.refl _ _ | with_reducible assumption | with_reducible refine Below.drew ?_ | with_reducible refine Below.drewN ?_ _ | with_reducible refine Below.alloc ?_ ?_ _ | with_reducible refine Below.setCell ?_ ?_ _ | with_reducible refine Below.setRow ?_ ?_ _ | with_reducible refine below_step (by assumption) ?_ ?_ | (show (_ : Nat) ≤ _; first | omega | (simp <;> omega)))⟩)
          case measure => simp [intOf]; omega
      · have hke : k = L.length := by omega
        subst hke
        go_wp2
        go_ret
        exact ⟨l, rfl, .inr ⟨by omega, hn2⟩, by omega, by repeat' (first | with_reducible exact Below.refl _ _ | with_reducible assumption | with_reducible refine Below.drew ?_ | with_reducible refine Below.drewN ?_ _ | with_reducible refine Below.alloc ?_ ?_ _ | with_reducible refine Below.setCell ?_ ?_ _ | with_reducible refine Below.setRow ?_ ?_ _ | with_reducible refine below_step (by assumption) ?_ ?_ | (show (_ : Nat) ≤ _; first | omega | (simp <;> omega)))⟩
theorem str_made : ∃ Z : Nat → Array Value, ∀ n, (Z n).size = n ∧ (n ≤ 1048576 → ∀ w : World, (Instr.makeSlice 33 (.int .i64 (n : Int)) (.int .i64 (n : Int))).run Tryz.prog w = .ok (.slice (some ⟨w.heap.size, 0, none⟩) n n) (w.alloc (.cells (Z n) 9))) := by
  obtain ⟨i0, z0, hi0, hz0, hs0, hb0, hc0⟩ := str_info
  refine ⟨fun n => madeCells z0.cells n, fun n => ⟨size_madeCells _ _, fun hn w => ?_⟩⟩
  have := run_make (P := Tryz.prog) w 33 9 i0 z0 Tryz.underlying33 hi0 hz0 .i64 .i64 n n (by omega) (by omega) (by rw [hb0]; omega) (by omega)
  rw [hs0] at this
  simpa using this
set_option maxHeartbeats 2000000 in
theorem toStringS_any (v : Value) (L : List (List UInt8)) (hn : L.length ≤ 1048576) (w : World) (h : SlT w v L) :
    Calls Tryz.prog 12 #[v] w fun e w' => ∃ v', e = .returned v' ∧ OwnT w' w.heap.size v' L ∧ Below w.heap.size w w' := by
  obtain ⟨Z, hZ⟩ := str_made
  have hzs := (hZ L.length).1
  have hmk := (hZ L.length).2 hn
  clear hZ
  generalize Z L.length = z at hzs hmk
  obtain ⟨a, cap, rfl⟩ := h.len
  have HH := Lib.hid h
  clear h
  go_enter Tryz.func12, Tryz.ntmps12
  go_wp2
  go_loopw [4] (fun i wr => ∃ (k : Nat) (d : Array Value), k ≤ L.length ∧ i = .int .i64 k ∧ Below w.heap.size w wr ∧ w.heap.size + 1 ≤ wr.heap.size ∧ frOf wr w.heap.size = (0, 0) ∧ rowOf wr w.heap.size = d ∧ d.size = L.length ∧ ∀ (i : Nat) (x : List UInt8), i < k → L[i]? = some x → d[i]? = some (Value.string (tx x))) (fun i wr => L.length + 1 - (intOf i).toNat)
  case atStart => exact ⟨0, z, by omega, rfl, by repeat' (first | with_reducible exact Below.refl _ _ | with_reducible assumption | with_reducible refine Below.drew ?_ | with_reducible refine Below.drewN ?_ _ | with_reducible refine Below.alloc ?_ ?_ _ | with_reducible refine Below.setCell ?_ ?_ _ | with_reducible refine Below.setRow ?_ ?_ _ | with_reducible refine below_step (by assumption) ?_ ?_ | (show (_ : Nat) ≤ _; first | omega | (simp <;> omega))), by simp, by (go_simp <;> (intros; omega)), by (go_simp <;> (intros; omega)), hzs, fun j x hj => absurd hj (by omega)⟩
  case round =>
    obtain ⟨k, d, hk, rfl, hb, hsz, hfr, hrd, hds, hd⟩ := hrel
    have HD := Lib.hid hd
    have hsz0 := hb.size
    clear hd
    by_cases hlt : k < L.length
    · obtain ⟨g, o, cap', hv, hg, hRs, hc⟩ := HH.out.at (by omega)
      simp only [Value.slice.injEq] at hv
      obtain ⟨rfl, -, rfl⟩ := hv
      obtain ⟨x, hx⟩ : ∃ x, L[k]? = some x := ⟨_, List.getElem?_eq_getElem hlt⟩
      have e0 := hc k x hx
      rw [← keep_row hb hg] at e0 hRs
      have hgw : g < wr.heap.size := by omega
      have hlt2 : (k : Int) < (L.length : Int) := by omega
      have hw1 : IntKind.i64.wrap ((k : Int) + 1) = ((k + 1 : Nat) : Int) := by rw [IntWalk.i64_in _ (by omega)]; rfl
      have hkd : k < d.size := by omega
      have HN := Lib.hid (show ∀ (i : Nat) (y : List UInt8), i < k + 1 → L[i]? = some y → (d.setIfInBounds k (.string (tx x)))[i]? = some (Value.string (tx y)) from fun i y hi hy => by
        by_cases hik : i = k
        · subst hik
          rw [Array.getElem?_setIfInBounds_self_of_lt hkd]
          rw [hx] at hy
          rw [Option.some.inj hy]
        · rw [Array.getElem?_setIfInBounds_ne (by omega)]
          exact HD.out i y (by omega) hy)
      clear hc hx
      go_wp2
      go_roundw
      case rel => first | exact ⟨k + 1, d.setIfInBounds k (.string (tx x)), by omega, by go_num, by repeat' (first | with_reducible exact Below.refl _ _ | with_reducible assumption | with_reducible refine Below.drew ?_ | with_reducible refine Below.drewN ?_ _ | with_reducible refine Below.alloc ?_ ?_ _ | with_reducible refine Below.setCell ?_ ?_ _ | with_reducible refine Below.setRow ?_ ?_ _ | with_reducible refine below_step (by assumption) ?_ ?_ | (show (_ : Nat) ≤ _; first | omega | (simp <;> omega))), by simp; omega, by (go_simp <;> (intros; omega)), by (go_simp <;> (intros; omega)), by simpa using hds, HN.out⟩ | ((repeat (with_reducible apply Exists.intro)); refine And.intro ?_ ?_; rotate_left; (focus ((repeat' (with_reducible apply And.intro)) <;> rfl)); exact ⟨k + 1, d.setIfInBounds k (.string (tx x)), by omega, by go_num, by repeat' (first | with_reducible exact Below.refl _ _ | with_reducible assumption | with_reducible refine Below.drew ?_ | with_reducible refine Below.drewN ?_ _ | with_reducible refine Below.alloc ?_ ?_ _ | with_reducible refine Below.setCell ?_ ?_ _ | with_reducible refine Below.setRow ?_ ?_ _ | with_reducible refine below_step (by assumption) ?_ ?_ | (show (_ : Nat) ≤ _; first | omega | (simp <;> omega))), by simp; omega, by (go_simp <;> (intros; omega)), by (go_simp <;> (intros; omega)), by simpa using hds, HN.out⟩)
      case measure => simp [intOf]; omega
    · have hke : k = L.length := by omega
      subst hke
      go_wp2
      go_ret
      exact ⟨_, rfl, .inr ⟨w.heap.size, _, rfl, Nat.le_refl _, by omega, hfr, by rw [hrd]; omega, fun i hi j hj => by
        have hj0 : j = 0 := by omega
        subst hj0
        rw [hrd, Nat.mul_one, Nat.add_zero, HD.out i _ hi (List.getElem?_eq_getElem hi), stV_at (List.getElem?_eq_getElem hi)]⟩, by repeat' (first | with_reducible exact Below.refl _ _ | with_reducible assumption | with_reducible refine Below.drew ?_ | with_reducible refine Below.drewN ?_ _ | with_reducible refine Below.alloc ?_ ?_ _ | with_reducible refine Below.setCell ?_ ?_ _ | with_reducible refine Below.setRow ?_ ?_ _ | with_reducible refine below_step (by assumption) ?_ ?_ | (show (_ : Nat) ≤ _; first | omega | (simp <;> omega)))⟩
end Go.Proofs.YtifhffnppgkjgaaGreatDoor
