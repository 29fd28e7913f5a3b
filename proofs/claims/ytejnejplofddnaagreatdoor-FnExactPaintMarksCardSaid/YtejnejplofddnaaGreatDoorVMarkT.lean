/- Whether marks are valid: both sides. -/
import Derived.Test.YtejnejplofddnaaGreatDoorVMarkS
namespace Go.Proofs.YtejnejplofddnaaGreatDoor
open Go.RowKit
set_option linter.unusedVariables false
set_option linter.unusedSimpArgs false
set_option maxRecDepth 100000
noncomputable def badU (c : Nat → Int) (F : Nat → Mk) (k : Nat) : Bool := !(mkOkB c (F k))
theorem vm_any {c : Nat → Int} {n : Nat} {F : Nat → Mk} (h : okS c = true) (h6 : n ≤ 6) : vmB c n F = !(anyB (badU c F) n) := by
  rcases Bool.eq_false_or_eq_true (anyB (badU c F) n) with h1 | h1
  · rw [h1]
    unfold anyB at h1
    rw [List.any_eq_true] at h1
    obtain ⟨k, hk, hb⟩ := h1
    unfold badU at hb
    exact vm_no (List.mem_range.1 hk) (by simpa using hb)
  · rw [h1]
    exact vm_yes h h6 (fun k hk => by have := anyB_all h1 k hk; unfold badU at this; simpa using this)
set_option maxHeartbeats 4000000 in
theorem badMarkAt_any (p : Nat) (c : Nat → Int) (hfc : FitSheet c) (W H : Nat) (hW : c 0 = W) (hH : c 1 = H) (W8 : W ≤ 8) (H8 : H ≤ 8) (v : Value) (n b : Nat) (F : Nat → Mk) (hn : n ≤ 1048576) (hF : ∀ k, k < n → MkIn (F k) ∧ (F k).n ≤ 1048576) (w : World) (hr : rowOf w p = kc sk 266 c) (hp : p < w.heap.size) (h : OwnM w b v n F) :
    Calls Tryz.prog 102 #[v, .func (.func 56) #[] #[.pointer (some ⟨p, 0, none⟩)]] w fun e w' => ∃ r : Int, e = .returned (.int .i64 r) ∧ decide (0 ≤ r) = anyB (badU c F) n ∧ -1 ≤ r ∧ r ≤ n ∧ Below w.heap.size w w' := by
  have HH := Lib.hid h
  have HF := Lib.hid hF
  obtain ⟨a, cap, rfl⟩ := h.1.len
  clear h hF
  go_enter Tryz.func102, Tryz.ntmps102
  go_wp2
  go_loopw [8] (fun i wr => ∃ k : Nat, k ≤ n ∧ i = .int .i64 k ∧ Below w.heap.size w wr ∧ ∀ j, j < k → badU c F j = false) (fun i wr => n + 1 - (intOf i).toNat)
  case atStart => exact ⟨0, by omega, rfl, by repeat' (first | with_reducible exact Below.refl _ _ | with_reducible assumption | with_reducible refine Below.drew ?_ | with_reducible refine Below.drewN ?_ _ | with_reducible refine Below.alloc ?_ ?_ _ | with_reducible refine Below.setCell ?_ ?_ _ | with_reducible refine Below.setRow ?_ ?_ _ | with_reducible refine below_step (by assumption) ?_ ?_ | (show (_ : Nat) ≤ _; first | omega | (simp <;> omega))), fun j h1 => by omega⟩
  case round =>
    obtain ⟨k, hk1, rfl, hb, hin⟩ := hrel
    have hsz := hb.size
    have HIN := Lib.hid hin
    clear hin
    by_cases hlt : k < n
    · obtain ⟨g, cap', hv, -, hg, -, hRs, hcells⟩ := HH.out.1.pos (by omega)
      simp only [Value.slice.injEq] at hv
      obtain ⟨rfl, -, rfl⟩ := hv
      have he := mk_ext2 (o := 0) (fun j hj => by rw [Nat.zero_add]; exact hcells k hlt j hj)
      rw [Nat.zero_add] at he
      obtain ⟨R, hR⟩ : ∃ R, rowOf w g = R := ⟨_, rfl⟩
      have hr1 : rowOf wr g = R := (keep_row hb hg).trans hR
      rw [hR] at he hRs
      have hRk : k * 2 + 2 ≤ R.size := by omega
      have hgw : g < wr.heap.size := by omega
      have hpr := (keep_row hb hp).trans hr
      have hpw : p < wr.heap.size := by omega
      have hlt2 : (k : Int) < (n : Int) := by omega
      have hw1 : IntKind.i64.wrap ((k : Int) + 1) = ((k + 1 : Nat) : Int) := by rw [IntWalk.i64_in _ (by omega)]; rfl
      have HO := Lib.hid (HH.out.2 k hlt)
      obtain ⟨⟨hcol, -, hwf⟩, hm2⟩ := HF.out k hlt
      have hOS0 := fun w h1 h2 h3 => badMark_any p c hfc W H hW hH W8 H8 (F k).col hcol (F k).v (F k).n b (F k).f hm2 (fun j hj => bd_i8 (hwf j hj)) w h1 h2 h3
      have hU : badU c F k = !(mkOkB c ⟨(F k).col, (F k).v, (F k).n, (F k).f⟩) := rfl
      rw [← hU] at hOS0
      clear hcells hwf hU hcol
      rcases Bool.eq_false_or_eq_true (badU c F k) with hs | hs
      · have HN := Lib.hid (anyB_yes (U := badU c F) hlt hs)
        rw [hs] at hOS0
        have HOS := Lib.hid hOS0
        clear hOS0 hs
        generalize (F k).col = col at *
        generalize (F k).v = vk at *
        go_wp2_with ((go_at_call 56; refine (HOS.out _ (by (go_simp <;> (intros; omega))) (by first | omega | (simp <;> omega)) (HO.out.below (by repeat' (first | with_reducible exact Below.refl _ _ | with_reducible assumption | with_reducible refine Below.drew ?_ | with_reducible refine Below.drewN ?_ _ | with_reducible refine Below.alloc ?_ ?_ _ | with_reducible refine Below.setCell ?_ ?_ _ | with_reducible refine Below.setRow ?_ ?_ _ | with_reducible refine below_step (by assumption) ?_ ?_ | (show (_ : Nat) ≤ _; first | omega | (simp <;> omega)))) (Nat.le_refl _))).mono ?_; rintro e w1 ⟨rfl, hb1⟩; have r1 := keep_rowA hb1; have f1 := keep_frA hb1; have s1 := hb1.size; (try simp only [World.size_alloc, World.size_setCell, setRow_size, World.size_drew, size_drewNm] at r1 f1 s1)))
        go_ret
        exact ⟨k, rfl, by rw [HN.out]; exact decide_eq_true (by omega), by omega, by omega, by repeat' (first | with_reducible exact Below.refl _ _ | with_reducible assumption | with_reducible refine Below.drew ?_ | with_reducible refine Below.drewN ?_ _ | with_reducible refine Below.alloc ?_ ?_ _ | with_reducible refine Below.setCell ?_ ?_ _ | with_reducible refine Below.setRow ?_ ?_ _ | with_reducible refine below_step (by assumption) ?_ ?_ | (show (_ : Nat) ≤ _; first | omega | (simp <;> omega)))⟩
      · have HN := Lib.hid (show ∀ j, j < k + 1 → badU c F j = false from fun j hj => by
          rcases Nat.lt_succ_iff_lt_or_eq.1 hj with h | rfl
          · exact HIN.out j h
          · exact hs)
        rw [hs] at hOS0
        have HOS := Lib.hid hOS0
        clear hOS0 hs
        generalize (F k).col = col at *
        generalize (F k).v = vk at *
        go_wp2_with ((go_at_call 56; refine (HOS.out _ (by (go_simp <;> (intros; omega))) (by first | omega | (simp <;> omega)) (HO.out.below (by repeat' (first | with_reducible exact Below.refl _ _ | with_reducible assumption | with_reducible refine Below.drew ?_ | with_reducible refine Below.drewN ?_ _ | with_reducible refine Below.alloc ?_ ?_ _ | with_reducible refine Below.setCell ?_ ?_ _ | with_reducible refine Below.setRow ?_ ?_ _ | with_reducible refine below_step (by assumption) ?_ ?_ | (show (_ : Nat) ≤ _; first | omega | (simp <;> omega)))) (Nat.le_refl _))).mono ?_; rintro e w1 ⟨rfl, hb1⟩; have r1 := keep_rowA hb1; have f1 := keep_frA hb1; have s1 := hb1.size; (try simp only [World.size_alloc, World.size_setCell, setRow_size, World.size_drew, size_drewNm] at r1 f1 s1)))
        go_roundw
        case rel => first | exact ⟨k + 1, by omega, by go_num, by repeat' (first | with_reducible exact Below.refl _ _ | with_reducible assumption | with_reducible refine Below.drew ?_ | with_reducible refine Below.drewN ?_ _ | with_reducible refine Below.alloc ?_ ?_ _ | with_reducible refine Below.setCell ?_ ?_ _ | with_reducible refine Below.setRow ?_ ?_ _ | with_reducible refine below_step (by assumption) ?_ ?_ | (show (_ : Nat) ≤ _; first | omega | (simp <;> omega))), HN.out⟩ | ((repeat (with_reducible apply Exists.intro)); refine And.intro ?_ ?_; rotate_left; (focus ((repeat' (with_reducible apply And.intro)) <;> rfl)); exact ⟨k + 1, by omega, by go_num, by repeat' (first | with_reducible exact Below.refl _ _ | with_reducible assumption | with_reducible refine Below.drew ?_ | with_reducible refine Below.drewN ?_ _ | with_reducible refine Below.alloc ?_ ?_ _ | with_reducible refine Below.setCell ?_ ?_ _ | with_reducible refine Below.setRow ?_ ?_ _ | with_reducible refine below_step (by assumption) ?_ ?_ | (show (_ : Nat) ≤ _; first | omega | (simp <;> omega))), HN.out⟩)
        case measure => simp [intOf] <;> omega
    · have hke : k = n := by omega
      subst hke
      have HV := Lib.hid (anyB_no HIN.out)
      go_wp2
      go_ret
      exact ⟨-1, rfl, by rw [HV.out]; rfl, by omega, by omega, by repeat' (first | with_reducible exact Below.refl _ _ | with_reducible assumption | with_reducible refine Below.drew ?_ | with_reducible refine Below.drewN ?_ _ | with_reducible refine Below.alloc ?_ ?_ _ | with_reducible refine Below.setCell ?_ ?_ _ | with_reducible refine Below.setRow ?_ ?_ _ | with_reducible refine below_step (by assumption) ?_ ?_ | (show (_ : Nat) ≤ _; first | omega | (simp <;> omega)))⟩
theorem badMarks_any (p : Nat) (c : Nat → Int) (hfc : FitSheet c) (W H : Nat) (hW : c 0 = W) (hH : c 1 = H) (W8 : W ≤ 8) (H8 : H ≤ 8) (v : Value) (n b : Nat) (F : Nat → Mk) (hn : n ≤ 1048576) (hF : ∀ k, k < n → MkIn (F k) ∧ (F k).n ≤ 1048576) (w : World) (hr : rowOf w p = kc sk 266 c) (hp : p < w.heap.size) (h : OwnM w b v n F) :
    Calls Tryz.prog 55 #[v, .func (.func 56) #[] #[.pointer (some ⟨p, 0, none⟩)]] w fun e w' => e = .returned (.bool (anyB (badU c F) n)) ∧ Below w.heap.size w w' := by
  have HX := Lib.hid (badMarkAt_any p c hfc W H hW hH W8 H8 v n b F hn hF w hr hp h)
  generalize hb : anyB (badU c F) n = z at *
  clear hb h hF
  go_enter Tryz.func55, Tryz.ntmps55
  go_wp2_with (go_at_call 102; refine HX.out.mono ?_; rintro e w1 ⟨k, rfl, hk, hk1, hk2, hb1⟩)
  go_ret
  exact ⟨by rw [← hk]; rfl, by repeat' (first | with_reducible exact Below.refl _ _ | with_reducible assumption | with_reducible refine Below.drew ?_ | with_reducible refine Below.drewN ?_ _ | with_reducible refine Below.alloc ?_ ?_ _ | with_reducible refine Below.setCell ?_ ?_ _ | with_reducible refine Below.setRow ?_ ?_ _ | with_reducible refine below_step (by assumption) ?_ ?_ | (show (_ : Nat) ≤ _; first | omega | (simp <;> omega)))⟩
set_option maxHeartbeats 4000000 in
theorem iValidMarks_any (c : Nat → Int) (hfc : FitSheet c) (v : Value) (n b : Nat) (F : Nat → Mk) (hn : n ≤ 1048576) (hF : ∀ k, k < n → MkIn (F k) ∧ (F k).n ≤ 1048576) (w : World) (h : OwnM w b v n F) :
    Calls Tryz.prog 18 #[.agg (kc sk 266 c), v] w fun e w' => e = .returned (.bool (vmB c n F)) ∧ Below w.heap.size w w' := by
  have hV0 := fun w => iValidSheet_any c hfc w
  have HH := Lib.hid h
  obtain ⟨a, cap, rfl⟩ := h.1.len
  clear h
  rcases Bool.eq_false_or_eq_true (okS c) with h1 | h1
  case inr =>
    rw [h1] at hV0
    have HV := Lib.hid hV0
    rw [vm_bad h1]
    clear h1 hV0 hF
    go_enter Tryz.func18, Tryz.ntmps18
    go_wp2_with (go_at_call 54; refine (HV.out _).mono ?_; rintro e w1 ⟨rfl, hb1⟩; have r1 := keep_rowA hb1; have f1 := keep_frA hb1; have s1 := hb1.size; (try simp only [World.size_alloc, World.size_setCell, setRow_size, World.size_drew, size_drewNm] at r1 f1 s1))
    go_ret
    exact ⟨rfl, by repeat' (first | with_reducible exact Below.refl _ _ | with_reducible assumption | with_reducible refine Below.drew ?_ | with_reducible refine Below.drewN ?_ _ | with_reducible refine Below.alloc ?_ ?_ _ | with_reducible refine Below.setCell ?_ ?_ _ | with_reducible refine Below.setRow ?_ ?_ _ | with_reducible refine below_step (by assumption) ?_ ?_ | (show (_ : Nat) ≤ _; first | omega | (simp <;> omega)))⟩
  rw [h1] at hV0
  have HV := Lib.hid hV0
  clear hV0
  by_cases h6 : n ≤ 6
  case neg =>
    have hg6 : ¬ (n : Int) ≤ 6 := by omega
    rw [vm_many h6]
    clear h1 hF h6
    go_enter Tryz.func18, Tryz.ntmps18
    go_wp2_with (go_at_call 54; refine (HV.out _).mono ?_; rintro e w1 ⟨rfl, hb1⟩; have r1 := keep_rowA hb1; have f1 := keep_frA hb1; have s1 := hb1.size; (try simp only [World.size_alloc, World.size_setCell, setRow_size, World.size_drew, size_drewNm] at r1 f1 s1))
    go_ret
    exact ⟨rfl, by repeat' (first | with_reducible exact Below.refl _ _ | with_reducible assumption | with_reducible refine Below.drew ?_ | with_reducible refine Below.drewN ?_ _ | with_reducible refine Below.alloc ?_ ?_ _ | with_reducible refine Below.setCell ?_ ?_ _ | with_reducible refine Below.setRow ?_ ?_ _ | with_reducible refine below_step (by assumption) ?_ ?_ | (show (_ : Nat) ≤ _; first | omega | (simp <;> omega)))⟩
  have hg6 : (n : Int) ≤ 6 := by omega
  obtain ⟨W, H, hW, hH, -, -, W8, H8⟩ := okS_sides h1
  have HB := Lib.hid (fun p w h3 h4 h5 => badMarks_any p c hfc W H hW hH W8 H8 (.slice a n cap) n b F hn hF w h3 h4 h5)
  rw [vm_any h1 h6]
  clear h1 hF h6
  generalize anyB (badU c F) n = z at *
  go_enter Tryz.func18, Tryz.ntmps18
  go_wp2_with (first | (go_at_call 54; refine (HV.out _).mono ?_; rintro e w1 ⟨rfl, hb1⟩; have r1 := keep_rowA hb1; have f1 := keep_frA hb1; have s1 := hb1.size; (try simp only [World.size_alloc, World.size_setCell, setRow_size, World.size_drew, size_drewNm] at r1 f1 s1)) | (go_at_call 55; refine (HB.out w.heap.size _ (by (go_simp <;> (intros; omega))) (by first | omega | (simp <;> omega)) (HH.out.below (by repeat' (first | with_reducible exact Below.refl _ _ | with_reducible assumption | with_reducible refine Below.drew ?_ | with_reducible refine Below.drewN ?_ _ | with_reducible refine Below.alloc ?_ ?_ _ | with_reducible refine Below.setCell ?_ ?_ _ | with_reducible refine Below.setRow ?_ ?_ _ | with_reducible refine below_step (by assumption) ?_ ?_ | (show (_ : Nat) ≤ _; first | omega | (simp <;> omega)))) (Nat.le_refl _))).mono ?_; rintro e w1 ⟨rfl, hb1⟩; have r1 := keep_rowA hb1; have f1 := keep_frA hb1; have s1 := hb1.size; (try simp only [World.size_alloc, World.size_setCell, setRow_size, World.size_drew, size_drewNm] at r1 f1 s1)))
  go_ret
  exact ⟨rfl, by repeat' (first | with_reducible exact Below.refl _ _ | with_reducible assumption | with_reducible refine Below.drew ?_ | with_reducible refine Below.drewN ?_ _ | with_reducible refine Below.alloc ?_ ?_ _ | with_reducible refine Below.setCell ?_ ?_ _ | with_reducible refine Below.setRow ?_ ?_ _ | with_reducible refine below_step (by assumption) ?_ ?_ | (show (_ : Nat) ≤ _; first | omega | (simp <;> omega)))⟩
end Go.Proofs.YtejnejplofddnaaGreatDoor
