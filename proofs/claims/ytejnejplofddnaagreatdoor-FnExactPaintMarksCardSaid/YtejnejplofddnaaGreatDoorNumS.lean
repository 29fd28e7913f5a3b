/- Lists of numbers and of strings: where a number stands, copies, likeness. -/
import Derived.Test.YtejnejplofddnaaGreatDoorStrA
import Derived.BigQuiet
import Derived.Deep.QuietTactic
import Derived.Lib.SliceRun
namespace Go.Proofs.YtejnejplofddnaaGreatDoor
open Go.RowKit
set_option linter.unusedVariables false
set_option linter.unusedSimpArgs false
set_option maxRecDepth 100000
theorem own_empty_i64 (w : World) (e : TypeId) : OwnK .i64 1 (w.alloc (.cells #[] e)) w.heap.size (.slice (some ⟨w.heap.size, 0, none⟩) 0 0) 0 (nl []) := OwnK.of (owns_empty1 w e) (fun j hj => by omega)
def nlV (l : List Nat) : List Value := l.map fun (i : Nat) => Value.int .i64 (i : Int)
theorem nlV_snoc (l : List Nat) (i : Nat) : nlV (l ++ [i]) = nlV l ++ [.int .i64 (i : Int)] := by unfold nlV; rw [List.map_append]; rfl
theorem own_nlV {w : World} {base : Nat} {e : TypeId} {v : Value} {l : List Nat} {n : Nat} (hl : l.length = n) (h : w.ownsRow base e 1 v n (nlV l)) : OwnK .i64 1 w base v n (nl l) := OwnK.of h (fun j hj => by
  have hj : j < l.length := by omega
  unfold nlV
  rw [List.getElem?_map, List.getElem?_eq_getElem hj, nl_at (List.getElem?_eq_getElem hj)]; rfl)
set_option maxHeartbeats 4000000 in
theorem index_i64 (lv : Value) (b : Nat) (l : List Nat) (hl : l.length ≤ 1048576) (i : Nat) (w : World) (h : OwnK .i64 1 w b lv l.length (nl l)) :
    Calls Tryz.prog 71 #[lv, .int .i64 (i : Int)] w fun e w' => e = .returned (.int .i64 (ixL l i)) ∧ Below w.heap.size w w' := by
  have HH := Lib.hid h
  obtain ⟨a, cap, rfl⟩ := h.len
  clear h
  go_enter Tryz.func71, Tryz.ntmps71
  go_wp2
  go_loopw [8] (fun z wr => ∃ k : Nat, k ≤ l.length ∧ z = .int .i64 k ∧ Below w.heap.size w wr ∧ ∀ j, j < k → l[j]? ≠ some i) (fun z wr => l.length + 1 - (intOf z).toNat)
  case atStart => exact ⟨0, by omega, rfl, by repeat' (first | with_reducible exact Below.refl _ _ | with_reducible assumption | with_reducible refine Below.drew ?_ | with_reducible refine Below.drewN ?_ _ | with_reducible refine Below.alloc ?_ ?_ _ | with_reducible refine Below.setCell ?_ ?_ _ | with_reducible refine Below.setRow ?_ ?_ _ | with_reducible refine below_step (by assumption) ?_ ?_ | (show (_ : Nat) ≤ _; first | omega | (simp <;> omega))), fun j hj => absurd hj (by omega)⟩
  case round =>
    obtain ⟨k, hk, rfl, hb, hno⟩ := hrel
    have HNO := Lib.hid hno
    clear hno
    by_cases hlt : k < l.length
    · obtain ⟨g, cap', hv, -, hg, -, hRs, hc⟩ := HH.out.pos (by omega)
      simp only [Value.slice.injEq] at hv
      obtain ⟨rfl, -, rfl⟩ := hv
      obtain ⟨x, hx⟩ : ∃ x, l[k]? = some x := ⟨_, List.getElem?_eq_getElem hlt⟩
      have e0 := hc k (by omega)
      rw [nl_at hx, ← keep_row hb hg] at e0
      have hgw : g < wr.heap.size := by have := hb.size; omega
      have hlt2 : (k : Int) < (l.length : Int) := by omega
      have hw1 : IntKind.i64.wrap ((k : Int) + 1) = ((k + 1 : Nat) : Int) := by rw [IntWalk.i64_in _ (by omega)]; rfl
      clear hc hRs
      by_cases hxi : x = i
      · subst hxi
        have HI := Lib.hid (ixL_hit hx HNO.out)
        clear hx
        go_wp2
        go_ret
        exact ⟨by rw [HI.out]; rfl, by repeat' (first | with_reducible exact Below.refl _ _ | with_reducible assumption | with_reducible refine Below.drew ?_ | with_reducible refine Below.drewN ?_ _ | with_reducible refine Below.alloc ?_ ?_ _ | with_reducible refine Below.setCell ?_ ?_ _ | with_reducible refine Below.setRow ?_ ?_ _ | with_reducible refine below_step (by assumption) ?_ ?_ | (show (_ : Nat) ≤ _; first | omega | (simp <;> omega)))⟩
      · have h1 : ((i : Int) == (x : Int)) = false := by rw [beq_eq_false_iff_ne]; omega
        have h2 : ¬ i = x := fun e => hxi e.symm
        have h3 : ¬ (i : Int) = (x : Int) := by omega
        have HN := Lib.hid (show ∀ j, j < k + 1 → l[j]? ≠ some i from fun j hj => by
          rcases Nat.lt_succ_iff_lt_or_eq.1 hj with h | rfl
          · exact HNO.out j h
          · rw [hx]; exact fun e => hxi (Option.some.inj e))
        clear hx
        go_wp2
        go_roundw
        case rel => first | exact ⟨k + 1, by omega, by go_num, by repeat' (first | with_reducible exact Below.refl _ _ | with_reducible assumption | with_reducible refine Below.drew ?_ | with_reducible refine Below.drewN ?_ _ | with_reducible refine Below.alloc ?_ ?_ _ | with_reducible refine Below.setCell ?_ ?_ _ | with_reducible refine Below.setRow ?_ ?_ _ | with_reducible refine below_step (by assumption) ?_ ?_ | (show (_ : Nat) ≤ _; first | omega | (simp <;> omega))), HN.out⟩ | ((repeat (with_reducible apply Exists.intro)); refine And.intro ?_ ?_; rotate_left; (focus ((repeat' (with_reducible apply And.intro)) <;> rfl)); exact ⟨k + 1, by omega, by go_num, by repeat' (first | with_reducible exact Below.refl _ _ | with_reducible assumption | with_reducible refine Below.drew ?_ | with_reducible refine Below.drewN ?_ _ | with_reducible refine Below.alloc ?_ ?_ _ | with_reducible refine Below.setCell ?_ ?_ _ | with_reducible refine Below.setRow ?_ ?_ _ | with_reducible refine below_step (by assumption) ?_ ?_ | (show (_ : Nat) ≤ _; first | omega | (simp <;> omega))), HN.out⟩)
        case measure => simp [intOf]; omega
    · have hke : k = l.length := by omega
      subst hke
      have HI := Lib.hid (ixL_miss HNO.out)
      go_wp2
      go_ret
      exact ⟨by rw [HI.out]; rfl, by repeat' (first | with_reducible exact Below.refl _ _ | with_reducible assumption | with_reducible refine Below.drew ?_ | with_reducible refine Below.drewN ?_ _ | with_reducible refine Below.alloc ?_ ?_ _ | with_reducible refine Below.setCell ?_ ?_ _ | with_reducible refine Below.setRow ?_ ?_ _ | with_reducible refine below_step (by assumption) ?_ ?_ | (show (_ : Nat) ≤ _; first | omega | (simp <;> omega)))⟩
theorem contains_i64 (lv : Value) (b : Nat) (l : List Nat) (hl : l.length ≤ 1048576) (i : Nat) (w : World) (h : OwnK .i64 1 w b lv l.length (nl l)) :
    Calls Tryz.prog 97 #[lv, .int .i64 (i : Int)] w fun e w' => e = .returned (.bool (decide (i ∈ l))) ∧ Below w.heap.size w w' := by
  have HX := Lib.hid (fun w h => index_i64 lv b l hl i w h)
  have HH := Lib.hid h
  have hd : decide (i ∈ l) = decide (0 ≤ ixL l i) := decide_eq_decide.2 (ixL_lt l i).2.2
  rw [hd]
  obtain ⟨h1, h2, -⟩ := ixL_lt l i
  clear h hd
  generalize ixL l i = z at *
  go_enter Tryz.func97, Tryz.ntmps97
  go_wp2_with (go_at_call 71; refine (HX.out _ (HH.out.below (by repeat' (first | with_reducible exact Below.refl _ _ | with_reducible assumption | with_reducible refine Below.drew ?_ | with_reducible refine Below.drewN ?_ _ | with_reducible refine Below.alloc ?_ ?_ _ | with_reducible refine Below.setCell ?_ ?_ _ | with_reducible refine Below.setRow ?_ ?_ _ | with_reducible refine below_step (by assumption) ?_ ?_ | (show (_ : Nat) ≤ _; first | omega | (simp <;> omega)))) (Nat.le_refl _))).mono ?_; rintro e w1 ⟨rfl, hb1⟩; have r_hb1 := keep_rowA hb1; have f_hb1 := keep_frA hb1; have s_hb1 := hb1.size; (try simp only [World.size_alloc, World.size_setCell, setRow_size, World.size_drew, size_drewNm] at r_hb1 f_hb1 s_hb1))
  go_ret
  exact ⟨rfl, by repeat' (first | with_reducible exact Below.refl _ _ | with_reducible assumption | with_reducible refine Below.drew ?_ | with_reducible refine Below.drewN ?_ _ | with_reducible refine Below.alloc ?_ ?_ _ | with_reducible refine Below.setCell ?_ ?_ _ | with_reducible refine Below.setRow ?_ ?_ _ | with_reducible refine below_step (by assumption) ?_ ?_ | (show (_ : Nat) ≤ _; first | omega | (simp <;> omega)))⟩
set_option maxHeartbeats 4000000 in
theorem l00Has_any (lv : Value) (b : Nat) (l : List Nat) (hl : l.length ≤ 1048576) (i : Nat) (w : World) (h : OwnK .i64 1 w b lv l.length (nl l)) :
    Calls Tryz.prog 95 #[lv, .int .i64 (i : Int)] w fun e w' => e = .returned (.bool (decide (i ∈ l))) ∧ Below w.heap.size w w' := by
  have HH := Lib.hid h
  obtain ⟨a, cap, rfl⟩ := h.len
  clear h
  go_enter Tryz.func95, Tryz.ntmps95
  go_wp2
  go_loopw [5] (fun z wr => ∃ k : Nat, k ≤ l.length ∧ z = .int .i64 k ∧ Below w.heap.size w wr ∧ ∀ j, j < k → l[j]? ≠ some i) (fun z wr => l.length + 1 - (intOf z).toNat)
  case atStart => exact ⟨0, by omega, rfl, by repeat' (first | with_reducible exact Below.refl _ _ | with_reducible assumption | with_reducible refine Below.drew ?_ | with_reducible refine Below.drewN ?_ _ | with_reducible refine Below.alloc ?_ ?_ _ | with_reducible refine Below.setCell ?_ ?_ _ | with_reducible refine Below.setRow ?_ ?_ _ | with_reducible refine below_step (by assumption) ?_ ?_ | (show (_ : Nat) ≤ _; first | omega | (simp <;> omega))), fun j hj => absurd hj (by omega)⟩
  case round =>
    obtain ⟨k, hk, rfl, hb, hno⟩ := hrel
    have HNO := Lib.hid hno
    clear hno
    by_cases hlt : k < l.length
    · obtain ⟨g, cap', hv, -, hg, -, hRs, hc⟩ := HH.out.pos (by omega)
      simp only [Value.slice.injEq] at hv
      obtain ⟨rfl, -, rfl⟩ := hv
      obtain ⟨x, hx⟩ : ∃ x, l[k]? = some x := ⟨_, List.getElem?_eq_getElem hlt⟩
      have e0 := hc k (by omega)
      rw [nl_at hx, ← keep_row hb hg] at e0
      have hgw : g < wr.heap.size := by have := hb.size; omega
      have hlt2 : (k : Int) < (l.length : Int) := by omega
      have hw1 : IntKind.i64.wrap ((k : Int) + 1) = ((k + 1 : Nat) : Int) := by rw [IntWalk.i64_in _ (by omega)]; rfl
      clear hc hRs
      by_cases hxi : x = i
      · subst hxi
        have HI := Lib.hid (show decide (x ∈ l) = true from decide_eq_true (List.mem_of_getElem? hx))
        clear hx
        go_wp2
        go_ret
        exact ⟨by rw [HI.out]; rfl, by repeat' (first | with_reducible exact Below.refl _ _ | with_reducible assumption | with_reducible refine Below.drew ?_ | with_reducible refine Below.drewN ?_ _ | with_reducible refine Below.alloc ?_ ?_ _ | with_reducible refine Below.setCell ?_ ?_ _ | with_reducible refine Below.setRow ?_ ?_ _ | with_reducible refine below_step (by assumption) ?_ ?_ | (show (_ : Nat) ≤ _; first | omega | (simp <;> omega)))⟩
      · have h1 : ((x : Int) == (i : Int)) = false := by rw [beq_eq_false_iff_ne]; omega
        have h2 : ¬ x = i := hxi
        have h3 : ¬ (x : Int) = (i : Int) := by omega
        have HN := Lib.hid (show ∀ j, j < k + 1 → l[j]? ≠ some i from fun j hj => by
          rcases Nat.lt_succ_iff_lt_or_eq.1 hj with h | rfl
          · exact HNO.out j h
          · rw [hx]; exact fun e => hxi (Option.some.inj e))
        clear hx
        go_wp2
        go_roundw
        case rel => first | exact ⟨k + 1, by omega, by go_num, by repeat' (first | with_reducible exact Below.refl _ _ | with_reducible assumption | with_reducible refine Below.drew ?_ | with_reducible refine Below.drewN ?_ _ | with_reducible refine Below.alloc ?_ ?_ _ | with_reducible refine Below.setCell ?_ ?_ _ | with_reducible refine Below.setRow ?_ ?_ _ | with_reducible refine below_step (by assumption) ?_ ?_ | (show (_ : Nat) ≤ _; first | omega | (simp <;> omega))), HN.out⟩ | ((repeat (with_reducible apply Exists.intro)); refine And.intro ?_ ?_; rotate_left; (focus ((repeat' (with_reducible apply And.intro)) <;> rfl)); exact ⟨k + 1, by omega, by go_num, by repeat' (first | with_reducible exact Below.refl _ _ | with_reducible assumption | with_reducible refine Below.drew ?_ | with_reducible refine Below.drewN ?_ _ | with_reducible refine Below.alloc ?_ ?_ _ | with_reducible refine Below.setCell ?_ ?_ _ | with_reducible refine Below.setRow ?_ ?_ _ | with_reducible refine below_step (by assumption) ?_ ?_ | (show (_ : Nat) ≤ _; first | omega | (simp <;> omega))), HN.out⟩)
        case measure => simp [intOf]; omega
    · have hke : k = l.length := by omega
      subst hke
      have HI := Lib.hid (show decide (i ∈ l) = false from decide_eq_false (fun hm => by
        obtain ⟨j, hj, e⟩ := List.getElem_of_mem hm
        exact HNO.out j hj (by rw [List.getElem?_eq_getElem hj, e])))
      go_wp2
      go_ret
      exact ⟨by rw [HI.out]; rfl, by repeat' (first | with_reducible exact Below.refl _ _ | with_reducible assumption | with_reducible refine Below.drew ?_ | with_reducible refine Below.drewN ?_ _ | with_reducible refine Below.alloc ?_ ?_ _ | with_reducible refine Below.setCell ?_ ?_ _ | with_reducible refine Below.setRow ?_ ?_ _ | with_reducible refine below_step (by assumption) ?_ ?_ | (show (_ : Nat) ≤ _; first | omega | (simp <;> omega)))⟩
theorem nlV_cells {w : World} {b g cap : Nat} {l : List Nat} (h : OwnK .i64 1 w b (.slice (some ⟨g, 0, none⟩) l.length cap) l.length (nl l)) (h0 : 0 < l.length) : g < w.heap.size ∧ ∀ (j : Nat) (u : Value), (nlV l)[j]? = some u → (rowOf w g)[j]? = some u := by
  obtain ⟨g', cap', hv, -, hg, -, -, hc⟩ := h.pos h0
  simp only [Value.slice.injEq, Option.some.injEq, Addr.mk.injEq] at hv
  obtain ⟨⟨rfl, -, -⟩, -, rfl⟩ := hv
  refine ⟨hg, fun j u hj => ?_⟩
  unfold nlV at hj
  rw [List.getElem?_map] at hj
  have hjl : j < l.length := by
    apply Decidable.byContradiction
    intro hn
    rw [List.getElem?_eq_none (by omega)] at hj
    cases hj
  rw [List.getElem?_eq_getElem hjl] at hj
  have := hc j (by omega)
  rw [nl_at (List.getElem?_eq_getElem hjl)] at this
  rw [this]
  simpa using hj
theorem nlV_one (l : List Nat) : ∀ u ∈ nlV l, u.oneCell' = true := by
  intro u hu
  obtain ⟨i, -, rfl⟩ := List.mem_map.1 hu
  rfl
theorem nlV_len (l : List Nat) : (nlV l).length = l.length := by unfold nlV; rw [List.length_map]
set_option maxHeartbeats 2000000 in
theorem l00Own_any (lv : Value) (b : Nat) (l : List Nat) (hl : l.length ≤ 1048576) (w : World) (h : OwnK .i64 1 w b lv l.length (nl l)) :
    Calls Tryz.prog 86 #[lv] w fun e w' => ∃ v', e = .returned v' ∧ w'.ownsRow w.heap.size 2 1 v' l.length (nlV l) ∧ Below w.heap.size w w' := by
  obtain ⟨i0, z0, hi0, hz0, hs0, hb0, hc0⟩ := i64_info
  rcases Nat.eq_zero_or_pos l.length with h0 | h0
  · have hl0 : l = [] := List.eq_nil_of_length_eq_zero h0
    subst hl0
    obtain ⟨a, cap, rfl⟩ := h.len
    have HZ := Lib.hid (fun b w => append_zero (P := Tryz.prog) 37 37 2 i0 Tryz.underlying37 hi0 b a 0 0 cap (by omega) w)
    clear h
    go_enter Tryz.func86, Tryz.ntmps86
    go_wp2_with (at_builtin; refine Lib.wpList_append_run _ rfl _ _ _ _ rfl _ _ rfl rfl _ _ (HZ.out _ _) ?_)
    go_ret
    exact ⟨_, rfl, owns_empty1 _ _, by repeat' (first | with_reducible exact Below.refl _ _ | with_reducible assumption | with_reducible refine Below.drew ?_ | with_reducible refine Below.drewN ?_ _ | with_reducible refine Below.alloc ?_ ?_ _ | with_reducible refine Below.setCell ?_ ?_ _ | with_reducible refine Below.setRow ?_ ?_ _ | with_reducible refine below_step (by assumption) ?_ ?_ | (show (_ : Nat) ≤ _; first | omega | (simp <;> omega)))⟩
  · have h2 := h
    obtain ⟨g, cap, rfl, -⟩ := h.pos h0
    obtain ⟨hg, hc⟩ := nlV_cells h2 h0
    have HC := Lib.hid hc
    clear h h2 hc
    go_enter Tryz.func86, Tryz.ntmps86
    go_wp2_with (at_builtin; refine wpList_append_own _ rfl _ _ 37 rfl w.heap.size 2 i0 z0 1 8 Tryz.underlying37 hi0 hz0 hs0 hb0 hc0 (by decide) _ _ _ rfl (owns_empty1 w _) ⟨g, 0, none⟩ l.length cap (nlV l) rfl (by rw [nlV_len, Nat.mul_one]) ?c1 (nlV_one l) ?c3 ?c4 ?c5 ?_)
    case c1 =>
      intro j u hj
      have : ((⟨g, 0, none⟩ : Addr).add j) = ⟨g, j, none⟩ := by unfold Addr.add; split <;> simp_all
      have e := HC.out j u hj
      rw [this, cell_row]
      go_simp
    case c3 => unfold maxLen; omega
    case c4 => omega
    case c5 => simp
    intro v' w1 hown' hgrow _
    have hbg : Below w.heap.size w w1 := below_grown (Below.alloc (Below.refl _ _) (Nat.le_refl _) _) hgrow (fun k hk => by simp [Value.ownBlock] at hk; omega) (by simp)
    have HW := Lib.hid hown'
    have HB := Lib.hid hbg
    clear hown' hgrow hbg
    go_wp2
    go_ret
    exact ⟨_, rfl, HW.out, HB.out⟩
set_option maxHeartbeats 2000000 in
theorem clone_i64 (lv : Value) (b : Nat) (l : List Nat) (hl : l.length ≤ 1048576) (w : World) (h : OwnK .i64 1 w b lv l.length (nl l)) :
    Calls Tryz.prog 98 #[lv] w fun e w' => ∃ v', e = .returned v' ∧ w'.ownsRow w.heap.size 2 1 v' l.length (nlV l) ∧ Below w.heap.size w w' := by
  obtain ⟨i0, z0, hi0, hz0, hs0, hb0, hc0⟩ := i64_info
  have heq := fun a m c w => Lib.run_eql_slice_nil (P := Tryz.prog) w 37 2 a m c 0 0 Tryz.underlying37
  rcases Nat.eq_zero_or_pos l.length with h0 | h0
  · have hl0 : l = [] := List.eq_nil_of_length_eq_zero h0
    subst hl0
    rcases h with ⟨rfl, -⟩ | ⟨g, cap, rfl, -⟩
    · go_enter Tryz.func98, Tryz.ntmps98
      go_wp2
      go_ret
      exact ⟨_, rfl, World.ownsRow_nil _ _ _ _, by repeat' (first | with_reducible exact Below.refl _ _ | with_reducible assumption | with_reducible refine Below.drew ?_ | with_reducible refine Below.drewN ?_ _ | with_reducible refine Below.alloc ?_ ?_ _ | with_reducible refine Below.setCell ?_ ?_ _ | with_reducible refine Below.setRow ?_ ?_ _ | with_reducible refine below_step (by assumption) ?_ ?_ | (show (_ : Nat) ≤ _; first | omega | (simp <;> omega)))⟩
    · have HZ := Lib.hid (fun b w => append_zero (P := Tryz.prog) 37 37 2 i0 Tryz.underlying37 hi0 b (some ⟨g, 0, none⟩) 0 0 cap (by omega) w)
      go_enter Tryz.func98, Tryz.ntmps98
      go_wp2_with (at_builtin; refine Lib.wpList_append_run _ rfl _ _ _ _ rfl _ _ rfl rfl _ _ (HZ.out _ _) ?_)
      go_ret
      exact ⟨_, rfl, owns_empty1 _ _, by repeat' (first | with_reducible exact Below.refl _ _ | with_reducible assumption | with_reducible refine Below.drew ?_ | with_reducible refine Below.drewN ?_ _ | with_reducible refine Below.alloc ?_ ?_ _ | with_reducible refine Below.setCell ?_ ?_ _ | with_reducible refine Below.setRow ?_ ?_ _ | with_reducible refine below_step (by assumption) ?_ ?_ | (show (_ : Nat) ≤ _; first | omega | (simp <;> omega)))⟩
  · have h2 := h
    obtain ⟨g, cap, rfl, -⟩ := h.pos h0
    obtain ⟨hg, hc⟩ := nlV_cells h2 h0
    have HC := Lib.hid hc
    clear h h2 hc
    go_enter Tryz.func98, Tryz.ntmps98
    go_wp2_with (at_builtin; refine wpList_append_own _ rfl _ _ 37 rfl w.heap.size 2 i0 z0 1 8 Tryz.underlying37 hi0 hz0 hs0 hb0 hc0 (by decide) _ _ _ rfl (owns_empty1 w _) ⟨g, 0, none⟩ l.length cap (nlV l) rfl (by rw [nlV_len, Nat.mul_one]) ?c1 (nlV_one l) ?c3 ?c4 ?c5 ?_)
    case c1 =>
      intro j u hj
      have : ((⟨g, 0, none⟩ : Addr).add j) = ⟨g, j, none⟩ := by unfold Addr.add; split <;> simp_all
      have e := HC.out j u hj
      rw [this, cell_row]
      go_simp
    case c3 => unfold maxLen; omega
    case c4 => omega
    case c5 => simp
    intro v' w1 hown' hgrow _
    have hbg : Below w.heap.size w w1 := below_grown (Below.alloc (Below.refl _ _) (Nat.le_refl _) _) hgrow (fun k hk => by simp [Value.ownBlock] at hk; omega) (by simp)
    have HW := Lib.hid hown'
    have HB := Lib.hid hbg
    clear hown' hgrow hbg
    go_wp2
    go_ret
    exact ⟨_, rfl, HW.out, HB.out⟩
set_option maxHeartbeats 4000000 in
theorem l06Same_any (v1 v2 : Value) (b1 b2 : Nat) (A B : List (List UInt8)) (hA : A.length ≤ 1048576) (hB : B.length ≤ 1048576) (w : World) (h1 : OwnT w b1 v1 A) (h2 : OwnT w b2 v2 B) :
    Calls Tryz.prog 52 #[v1, v2] w fun e w' => e = .returned (.bool (eqL A B)) ∧ Below w.heap.size w w' := by
  have H1 := Lib.hid h1
  have H2 := Lib.hid h2
  obtain ⟨a1, c1, rfl⟩ := h1.len
  obtain ⟨a2, c2, rfl⟩ := h2.len
  clear h1 h2
  by_cases hne : A.length = B.length
  case neg =>
    have hn1 : ((A.length : Int) == (B.length : Int)) = false := by rw [beq_eq_false_iff_ne]; omega
    have hn2 : ¬ (A.length : Int) = (B.length : Int) := by omega
    have hn3 : ((A.length : Int) != (B.length : Int)) = true := by rw [bne, hn1]; rfl
    have HV := Lib.hid (eqL_len hne)
    go_enter Tryz.func52, Tryz.ntmps52
    go_wp2
    go_ret
    exact ⟨by rw [HV.out]; rfl, by repeat' (first | with_reducible exact Below.refl _ _ | with_reducible assumption | with_reducible refine Below.drew ?_ | with_reducible refine Below.drewN ?_ _ | with_reducible refine Below.alloc ?_ ?_ _ | with_reducible refine Below.setCell ?_ ?_ _ | with_reducible refine Below.setRow ?_ ?_ _ | with_reducible refine below_step (by assumption) ?_ ?_ | (show (_ : Nat) ≤ _; first | omega | (simp <;> omega)))⟩
  have HE := Lib.hid (fun ha => eqL_all (A := A) (B := B) hne ha)
  have HO := Lib.hid (fun j a b (ha : A[j]? = some a) (hb : B[j]? = some b) (hn : a ≠ b) => eqL_no ha hb hn)
  have hnB : ((A.length : Int) != (B.length : Int)) = false := by rw [show (A.length : Int) = (B.length : Int) by omega]; simp
  go_enter Tryz.func52, Tryz.ntmps52
  go_wp2
  go_loopw [5] (fun z wr => ∃ k : Nat, k ≤ A.length ∧ z = .int .i64 k ∧ Below w.heap.size w wr ∧ ∀ j a b, j < k → A[j]? = some a → B[j]? = some b → a = b) (fun z wr => A.length + 1 - (intOf z).toNat)
  case atStart => exact ⟨0, by omega, rfl, by repeat' (first | with_reducible exact Below.refl _ _ | with_reducible assumption | with_reducible refine Below.drew ?_ | with_reducible refine Below.drewN ?_ _ | with_reducible refine Below.alloc ?_ ?_ _ | with_reducible refine Below.setCell ?_ ?_ _ | with_reducible refine Below.setRow ?_ ?_ _ | with_reducible refine below_step (by assumption) ?_ ?_ | (show (_ : Nat) ≤ _; first | omega | (simp <;> omega))), fun j a b hj => absurd hj (by omega)⟩
  case round =>
    obtain ⟨k, hk, rfl, hb, hal⟩ := hrel
    have HAL := Lib.hid hal
    clear hal
    by_cases hlt : k < A.length
    · obtain ⟨xa, hxa⟩ : ∃ x, A[k]? = some x := ⟨_, List.getElem?_eq_getElem hlt⟩
      obtain ⟨xb, hxb⟩ : ∃ x, B[k]? = some x := ⟨_, List.getElem?_eq_getElem (by omega)⟩
      obtain ⟨g1, c1', hv, hg1, hs1, hc1⟩ := H1.out.at (by omega)
      simp only [Value.slice.injEq] at hv
      obtain ⟨rfl, -, rfl⟩ := hv
      obtain ⟨g2, c2', hv, hg2, hs2, hc2⟩ := H2.out.at (by omega)
      simp only [Value.slice.injEq] at hv
      obtain ⟨rfl, -, rfl⟩ := hv
      have e1 := hc1 k xa hxa
      have e2 := hc2 k xb hxb
      rw [← keep_row hb hg1] at e1
      rw [← keep_row hb hg2] at e2
      have hg1w : g1 < wr.heap.size := by have := hb.size; omega
      have hg2w : g2 < wr.heap.size := by have := hb.size; omega
      have hlt2 : (k : Int) < (A.length : Int) := by omega
      have hlt3 : k < B.length := by omega
      have hlt4 : (k : Int) < (B.length : Int) := by omega
      have hw1 : IntKind.i64.wrap ((k : Int) + 1) = ((k + 1 : Nat) : Int) := by rw [IntWalk.i64_in _ (by omega)]; rfl
      clear hc1 hc2 hs1 hs2 hg1 hg2
      by_cases hx : xa = xb
      · subst hx
        have HN := Lib.hid (show ∀ j a b, j < k + 1 → A[j]? = some a → B[j]? = some b → a = b from fun j a b hj ha hb => by
          rcases Nat.lt_succ_iff_lt_or_eq.1 hj with h | rfl
          · exact HAL.out j a b h ha hb
          · rw [hxa] at ha; rw [hxb] at hb
            exact (Option.some.inj ha).symm.trans (Option.some.inj hb))
        clear hxa hxb
        go_wp2
        go_quiet (fail)
        go_wp2
        go_roundw
        case rel => first | exact ⟨k + 1, by omega, by go_num, by repeat' (first | with_reducible exact Below.refl _ _ | with_reducible assumption | with_reducible refine Below.drew ?_ | with_reducible refine Below.drewN ?_ _ | with_reducible refine Below.alloc ?_ ?_ _ | with_reducible refine Below.setCell ?_ ?_ _ | with_reducible refine Below.setRow ?_ ?_ _ | with_reducible refine below_step (by assumption) ?_ ?_ | (show (_ : Nat) ≤ _; first | omega | (simp <;> omega))), HN.out⟩ | ((repeat (with_reducible apply Exists.intro)); refine And.intro ?_ ?_; rotate_left; (focus ((repeat' (with_reducible apply And.intro)) <;> rfl)); exact ⟨k + 1, by omega, by go_num, by repeat' (first | with_reducible exact Below.refl _ _ | with_reducible assumption | with_reducible refine Below.drew ?_ | with_reducible refine Below.drewN ?_ _ | with_reducible refine Below.alloc ?_ ?_ _ | with_reducible refine Below.setCell ?_ ?_ _ | with_reducible refine Below.setRow ?_ ?_ _ | with_reducible refine below_step (by assumption) ?_ ?_ | (show (_ : Nat) ≤ _; first | omega | (simp <;> omega))), HN.out⟩)
        case measure => simp [intOf]; omega
      · have HV := Lib.hid (HO.out k xa xb hxa hxb hx)
        have h1 : ((tx xa).toList == (tx xb).toList) = false := by rw [tx_list, tx_list, beq_eq_false_iff_ne]; exact hx
        clear hxa hxb
        go_wp2
        go_quiet (fail)
        go_wp2
        go_ret
        exact ⟨by rw [HV.out]; rfl, by repeat' (first | with_reducible exact Below.refl _ _ | with_reducible assumption | with_reducible refine Below.drew ?_ | with_reducible refine Below.drewN ?_ _ | with_reducible refine Below.alloc ?_ ?_ _ | with_reducible refine Below.setCell ?_ ?_ _ | with_reducible refine Below.setRow ?_ ?_ _ | with_reducible refine below_step (by assumption) ?_ ?_ | (show (_ : Nat) ≤ _; first | omega | (simp <;> omega)))⟩
    · have hke : k = A.length := by omega
      subst hke
      have HV := Lib.hid (HE.out (fun j a b hj ha hb => HAL.out j a b hj ha hb))
      go_wp2
      go_ret
      exact ⟨by rw [HV.out]; rfl, by repeat' (first | with_reducible exact Below.refl _ _ | with_reducible assumption | with_reducible refine Below.drew ?_ | with_reducible refine Below.drewN ?_ _ | with_reducible refine Below.alloc ?_ ?_ _ | with_reducible refine Below.setCell ?_ ?_ _ | with_reducible refine Below.setRow ?_ ?_ _ | with_reducible refine below_step (by assumption) ?_ ?_ | (show (_ : Nat) ≤ _; first | omega | (simp <;> omega)))⟩
set_option maxHeartbeats 4000000 in
theorem equal_strs_any (v1 v2 : Value) (b1 b2 : Nat) (A B : List (List UInt8)) (hA : A.length ≤ 1048576) (hB : B.length ≤ 1048576) (w : World) (h1 : OwnT w b1 v1 A) (h2 : OwnT w b2 v2 B) :
    Calls Tryz.prog 96 #[v1, v2] w fun e w' => e = .returned (.bool (eqL A B)) ∧ Below w.heap.size w w' := by
  have H1 := Lib.hid h1
  have H2 := Lib.hid h2
  obtain ⟨a1, c1, rfl⟩ := h1.len
  obtain ⟨a2, c2, rfl⟩ := h2.len
  clear h1 h2
  by_cases hne : A.length = B.length
  case neg =>
    have hn1 : ((A.length : Int) == (B.length : Int)) = false := by rw [beq_eq_false_iff_ne]; omega
    have hn2 : ¬ (A.length : Int) = (B.length : Int) := by omega
    have hn3 : ((A.length : Int) != (B.length : Int)) = true := by rw [bne, hn1]; rfl
    have HV := Lib.hid (eqL_len hne)
    go_enter Tryz.func96, Tryz.ntmps96
    go_wp2
    go_ret
    exact ⟨by rw [HV.out]; rfl, by repeat' (first | with_reducible exact Below.refl _ _ | with_reducible assumption | with_reducible refine Below.drew ?_ | with_reducible refine Below.drewN ?_ _ | with_reducible refine Below.alloc ?_ ?_ _ | with_reducible refine Below.setCell ?_ ?_ _ | with_reducible refine Below.setRow ?_ ?_ _ | with_reducible refine below_step (by assumption) ?_ ?_ | (show (_ : Nat) ≤ _; first | omega | (simp <;> omega)))⟩
  have HE := Lib.hid (fun ha => eqL_all (A := A) (B := B) hne ha)
  have HO := Lib.hid (fun j a b (ha : A[j]? = some a) (hb : B[j]? = some b) (hn : a ≠ b) => eqL_no ha hb hn)
  have hnB : ((A.length : Int) != (B.length : Int)) = false := by rw [show (A.length : Int) = (B.length : Int) by omega]; simp
  go_enter Tryz.func96, Tryz.ntmps96
  go_wp2
  go_loopw [13] (fun z wr => ∃ k : Nat, k ≤ A.length ∧ z = .int .i64 k ∧ Below w.heap.size w wr ∧ ∀ j a b, j < k → A[j]? = some a → B[j]? = some b → a = b) (fun z wr => A.length + 1 - (intOf z).toNat)
  case atStart => exact ⟨0, by omega, rfl, by repeat' (first | with_reducible exact Below.refl _ _ | with_reducible assumption | with_reducible refine Below.drew ?_ | with_reducible refine Below.drewN ?_ _ | with_reducible refine Below.alloc ?_ ?_ _ | with_reducible refine Below.setCell ?_ ?_ _ | with_reducible refine Below.setRow ?_ ?_ _ | with_reducible refine below_step (by assumption) ?_ ?_ | (show (_ : Nat) ≤ _; first | omega | (simp <;> omega))), fun j a b hj => absurd hj (by omega)⟩
  case round =>
    obtain ⟨k, hk, rfl, hb, hal⟩ := hrel
    have HAL := Lib.hid hal
    clear hal
    by_cases hlt : k < A.length
    · obtain ⟨xa, hxa⟩ : ∃ x, A[k]? = some x := ⟨_, List.getElem?_eq_getElem hlt⟩
      obtain ⟨xb, hxb⟩ : ∃ x, B[k]? = some x := ⟨_, List.getElem?_eq_getElem (by omega)⟩
      obtain ⟨g1, c1', hv, hg1, hs1, hc1⟩ := H1.out.at (by omega)
      simp only [Value.slice.injEq] at hv
      obtain ⟨rfl, -, rfl⟩ := hv
      obtain ⟨g2, c2', hv, hg2, hs2, hc2⟩ := H2.out.at (by omega)
      simp only [Value.slice.injEq] at hv
      obtain ⟨rfl, -, rfl⟩ := hv
      have e1 := hc1 k xa hxa
      have e2 := hc2 k xb hxb
      rw [← keep_row hb hg1] at e1
      rw [← keep_row hb hg2] at e2
      have hg1w : g1 < wr.heap.size := by have := hb.size; omega
      have hg2w : g2 < wr.heap.size := by have := hb.size; omega
      have hlt2 : (k : Int) < (A.length : Int) := by omega
      have hlt3 : k < B.length := by omega
      have hlt4 : (k : Int) < (B.length : Int) := by omega
      have hw1 : IntKind.i64.wrap ((k : Int) + 1) = ((k + 1 : Nat) : Int) := by rw [IntWalk.i64_in _ (by omega)]; rfl
      clear hc1 hc2 hs1 hs2 hg1 hg2
      by_cases hx : xa = xb
      · subst hx
        have HN := Lib.hid (show ∀ j a b, j < k + 1 → A[j]? = some a → B[j]? = some b → a = b from fun j a b hj ha hb => by
          rcases Nat.lt_succ_iff_lt_or_eq.1 hj with h | rfl
          · exact HAL.out j a b h ha hb
          · rw [hxa] at ha; rw [hxb] at hb
            exact (Option.some.inj ha).symm.trans (Option.some.inj hb))
        clear hxa hxb
        go_wp2
        go_quiet (fail)
        go_wp2
        go_roundw
        case rel => first | exact ⟨k + 1, by omega, by go_num, by repeat' (first | with_reducible exact Below.refl _ _ | with_reducible assumption | with_reducible refine Below.drew ?_ | with_reducible refine Below.drewN ?_ _ | with_reducible refine Below.alloc ?_ ?_ _ | with_reducible refine Below.setCell ?_ ?_ _ | with_reducible refine Below.setRow ?_ ?_ _ | with_reducible refine below_step (by assumption) ?_ ?_ | (show (_ : Nat) ≤ _; first | omega | (simp <;> omega))), HN.out⟩ | ((repeat (with_reducible apply Exists.intro)); refine And.intro ?_ ?_; rotate_left; (focus ((repeat' (with_reducible apply And.intro)) <;> rfl)); exact ⟨k + 1, by omega, by go_num, by repeat' (first | with_reducible exact Below.refl _ _ | with_reducible assumption | with_reducible refine Below.drew ?_ | with_reducible refine Below.drewN ?_ _ | with_reducible refine Below.alloc ?_ ?_ _ | with_reducible refine Below.setCell ?_ ?_ _ | with_reducible refine Below.setRow ?_ ?_ _ | with_reducible refine below_step (by assumption) ?_ ?_ | (show (_ : Nat) ≤ _; first | omega | (simp <;> omega))), HN.out⟩)
        case measure => simp [intOf]; omega
      · have HV := Lib.hid (HO.out k xa xb hxa hxb hx)
        have h1 : ((tx xa).toList == (tx xb).toList) = false := by rw [tx_list, tx_list, beq_eq_false_iff_ne]; exact hx
        clear hxa hxb
        go_wp2
        go_quiet (fail)
        go_wp2
        go_ret
        exact ⟨by rw [HV.out]; rfl, by repeat' (first | with_reducible exact Below.refl _ _ | with_reducible assumption | with_reducible refine Below.drew ?_ | with_reducible refine Below.drewN ?_ _ | with_reducible refine Below.alloc ?_ ?_ _ | with_reducible refine Below.setCell ?_ ?_ _ | with_reducible refine Below.setRow ?_ ?_ _ | with_reducible refine below_step (by assumption) ?_ ?_ | (show (_ : Nat) ≤ _; first | omega | (simp <;> omega)))⟩
    · have hke : k = A.length := by omega
      subst hke
      have HV := Lib.hid (HE.out (fun j a b hj ha hb => HAL.out j a b hj ha hb))
      go_wp2
      go_ret
      exact ⟨by rw [HV.out]; rfl, by repeat' (first | with_reducible exact Below.refl _ _ | with_reducible assumption | with_reducible refine Below.drew ?_ | with_reducible refine Below.drewN ?_ _ | with_reducible refine Below.alloc ?_ ?_ _ | with_reducible refine Below.setCell ?_ ?_ _ | with_reducible refine Below.setRow ?_ ?_ _ | with_reducible refine below_step (by assumption) ?_ ?_ | (show (_ : Nat) ≤ _; first | omega | (simp <;> omega)))⟩
end Go.Proofs.YtejnejplofddnaaGreatDoor
