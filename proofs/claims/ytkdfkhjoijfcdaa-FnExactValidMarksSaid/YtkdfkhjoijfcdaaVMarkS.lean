/- Whether marks are valid: the reference. -/
import Derived.Test.YtkdfkhjoijfcdaaVMarkI
import Derived.Test.YtkdfkhjoijfcdaaSheetOk
import Derived.Test.YtkdfkhjoijfcdaaWaterI
import Derived.StillTailTactics
namespace Go.Proofs.Ytkdfkhjoijfcdaa
open Go.RowKit
set_option linter.unusedVariables false
set_option linter.unusedSimpArgs false
set_option maxRecDepth 100000
open Classical in
noncomputable def vmB (c : Nat → Int) (n : Nat) (F : Nat → Mk) : Bool := okS c && (decide (n ≤ 6) && decide (∀ k, k < n → mkOkB c (F k) = true))
open Classical in
theorem vm_bad {c : Nat → Int} {n : Nat} {F : Nat → Mk} (h : okS c = false) : vmB c n F = false := by unfold vmB; rw [h]; rfl
open Classical in
theorem vm_many {c : Nat → Int} {n : Nat} {F : Nat → Mk} (h : ¬ n ≤ 6) : vmB c n F = false := by unfold vmB; rw [decide_eq_false h, Bool.false_and, Bool.and_false]
open Classical in
theorem vm_no {c : Nat → Int} {n k : Nat} {F : Nat → Mk} (hk : k < n) (h : mkOkB c (F k) = false) : vmB c n F = false := by
  unfold vmB
  rw [decide_eq_false (p := ∀ k, k < n → mkOkB c (F k) = true) (fun g => by rw [g k hk] at h; cases h), Bool.and_false, Bool.and_false]
open Classical in
theorem vm_yes {c : Nat → Int} {n : Nat} {F : Nat → Mk} (h : okS c = true) (h6 : n ≤ 6) (hF : ∀ k, k < n → mkOkB c (F k) = true) : vmB c n F = true := by
  unfold vmB
  rw [h, decide_eq_true h6, decide_eq_true hF]; rfl
/-- The places met so far. -/
def snB (f : Nat → Int) (k q : Nat) : Bool := (List.range k).any fun j => (f (j * 2 + 1)).toNat * 8 + (f (j * 2)).toNat == q
theorem snB_zero (f : Nat → Int) (q : Nat) : snB f 0 q = false := rfl
theorem snB_next (f : Nat → Int) (k q : Nat) : snB f (k + 1) q = (snB f k q || ((f (k * 2 + 1)).toNat * 8 + (f (k * 2)).toNat == q)) := by
  unfold snB
  rw [List.range_succ, List.any_append]
  simp
theorem snB_hit {f : Nat → Int} {k q : Nat} (h : snB f k q = true) : ∃ j, j < k ∧ (f (j * 2 + 1)).toNat * 8 + (f (j * 2)).toNat = q := by
  unfold snB at h
  rw [List.any_eq_true] at h
  obtain ⟨j, hj, h⟩ := h
  exact ⟨j, List.mem_range.1 hj, by simpa using h⟩
theorem snB_miss {f : Nat → Int} {k q : Nat} (h : snB f k q = false) : ∀ j, j < k → (f (j * 2 + 1)).toNat * 8 + (f (j * 2)).toNat ≠ q := fun j hj e => by
  unfold snB at h
  rw [List.any_eq_false] at h
  exact h j (List.mem_range.2 hj) (by simpa using e)
/-- The first k places are free, and no two of them are one. -/
def CellsOkTo (c f : Nat → Int) (k : Nat) : Prop := (∀ j, j < k → misU c f j = false ∧ waxU c f j = false) ∧ Dis f k
theorem isP_in {c : Nat → Int} {W H : Nat} (hW : c 0 = W) (hH : c 1 = H) (W8 : W ≤ 8) (H8 : H ≤ 8) {x y : Int} (h : isP c x y = true) : ∃ a b : Nat, a < 8 ∧ b < 8 ∧ x = a ∧ y = b := by
  unfold isP at h
  rw [hW, hH] at h
  simp only [Bool.and_eq_true, inB_true] at h
  exact ⟨x.toNat, y.toNat, by omega, by omega, by omega, by omega⟩
theorem vcells_next {c f : Nat → Int} {W H : Nat} (hW : c 0 = W) (hH : c 1 = H) (W8 : W ≤ 8) (H8 : H ≤ 8) {k x y : Nat} (hx : x < 8) (hy : y < 8) (hfx : f (k * 2) = x) (hfy : f (k * 2 + 1) = y) (h : CellsOkTo c f k) (hp : isP c (x : Int) (y : Int) = true) (hw : waxS c x y = false) (hs : snB f k (y * 8 + x) = false) : CellsOkTo c f (k + 1) := by
  refine ⟨fun j hj => ?_, fun i j hij hj g => ?_⟩
  · rcases Nat.lt_succ_iff_lt_or_eq.1 hj with h1 | rfl
    · exact h.1 j h1
    · unfold misU waxU
      rw [hfx, hfy]
      exact ⟨by rw [hp]; rfl, hw⟩
  · rcases Nat.lt_succ_iff_lt_or_eq.1 hj with h1 | rfl
    · exact h.2 i j hij h1 g
    · refine snB_miss hs i hij ?_
      rw [g.1, g.2, hfx, hfy]; rfl
theorem cells_seen {f : Nat → Int} {n k x y : Nat} {c : Nat → Int} {W H : Nat} (hW : c 0 = W) (hH : c 1 = H) (W8 : W ≤ 8) (H8 : H ≤ 8) (hk : k < n) (hx : x < 8) (hy : y < 8) (hfx : f (k * 2) = x) (hfy : f (k * 2 + 1) = y) (h : CellsOkTo c f k) (hs : snB f k (y * 8 + x) = true) : ¬ Dis f n := fun g => by
  obtain ⟨j, hj, e⟩ := snB_hit hs
  have hm := (h.1 j hj).1
  unfold misU at hm
  obtain ⟨a, b, ha, hb, e1, e2⟩ := isP_in hW hH W8 H8 (show isP c (f (j * 2)) (f (j * 2 + 1)) = true by simpa using hm)
  refine g j k hj hk ?_
  rw [e1, e2] at e
  rw [e1, e2, hfx, hfy]
  simp only [Int.toNat_natCast] at e
  exact ⟨by omega, by omega⟩
theorem mk_unfree {c : Nat → Int} {x : Mk} {k : Nat} (hk : k < x.n) (h : misU c x.f k = true ∨ waxU c x.f k = true) : mkOkB c x = false := by
  rcases Bool.eq_false_or_eq_true (anyB (misU c x.f) x.n) with h1 | h1
  · exact mk_mis h1
  · rcases h with h | h
    · rw [anyB_yes hk h] at h1; cases h1
    · exact mk_wax2 (anyB_yes hk h)
theorem mk_pass {c : Nat → Int} {x : Mk} (h1 : inB x.col 0 2 = true) (h2 : inB (x.n : Int) 1 64 = true) (h : CellsOkTo c x.f x.n) : mkOkB c x = true := mk_ok h1 h2 (anyB_no fun j hj => (h.1 j hj).1) (anyB_no fun j hj => (h.1 j hj).2) h.2
theorem size_grid : (Try.prog.info? 95).map (·.size) = some 64 := by kernel_rfl
@[go_sem ↓] theorem toStore_grid (a : Addr) (v : Value) : storeVar 95 a v = storeR 95 a v := rfl
@[go_sem] theorem store_grid (w : World) (b o : Nat) (vs : Array Value) : (storeR 95 ⟨b, o, none⟩ (.agg vs)).run Try.prog w = storedRow Try.prog 95 64 w b o vs := run_store_rowA (P := Try.prog) 95 64 (by omega) size_grid w b o vs
@[go_sem ↓] theorem zero_grid (w : World) : (zeroValue 95).run Try.prog w = .ok (.agg (mk 64 fun _ => .bool false)) w := by kernel_rfl
theorem l02Free_any (p : Nat) (c : Nat → Int) (hfc : FitSheet c) (W H : Nat) (hW : c 0 = W) (hH : c 1 = H) (W8 : W ≤ 8) (H8 : H ≤ 8) (x y : Int) (hx : -128 ≤ x ∧ x ≤ 127) (hy : -128 ≤ y ∧ y ≤ 127) (w : World) (hr : rowOf w p = kc sk 266 c) (hp : p < w.heap.size) :
    Calls Try.prog 59 #[.pointer (some ⟨p, 0, none⟩), .agg #[.int .i8 x, .int .i8 y]] w fun e w' => e = .returned (.bool (isP c x y && !(waxS c x.toNat y.toNat))) ∧ Below w.heap.size w w' := by
  have hI := fun w h1 h2 => l01Is_any p c hfc x y hx hy w h1 h2
  rcases Bool.eq_false_or_eq_true (isP c x y) with h1 | h1
  · obtain ⟨a, b, ha, hb, rfl, rfl⟩ := isP_in hW hH W8 H8 h1
    rw [h1] at hI
    have HI := Lib.hid hI
    have HW := Lib.hid (fun w h1 h2 => l01Waxed_any p c hfc a b ha hb w h1 h2)
    rw [h1]
    simp only [Int.toNat_natCast]
    clear h1 hI
    generalize waxS c a b = z at *
    go_enter Try.func59, Try.ntmps59
    go_wp2_with (first | (go_at_call 43; refine (HI.out _ (by (go_simp <;> (intros; omega))) (by first | omega | (simp <;> omega))).mono ?_; rintro e w1 ⟨rfl, hb1⟩; have r1 := keep_rowA hb1; have f1 := keep_frA hb1; have s1 := hb1.size; (try simp only [World.size_alloc, World.size_setCell, setRow_size, World.size_drew, size_drewNm] at r1 f1 s1)) | (go_at_call 44; refine (HW.out _ (by (go_simp <;> (intros; omega))) (by first | omega | (simp <;> omega))).mono ?_; rintro e w1 ⟨rfl, hb1⟩; have r1 := keep_rowA hb1; have f1 := keep_frA hb1; have s1 := hb1.size; (try simp only [World.size_alloc, World.size_setCell, setRow_size, World.size_drew, size_drewNm] at r1 f1 s1)))
    go_ret
    exact ⟨by cases z <;> rfl, by repeat' (first | with_reducible exact Below.refl _ _ | with_reducible assumption | with_reducible refine Below.drew ?_ | with_reducible refine Below.drewN ?_ _ | with_reducible refine Below.alloc ?_ ?_ _ | with_reducible refine Below.setCell ?_ ?_ _ | with_reducible refine Below.setRow ?_ ?_ _ | with_reducible refine below_step (by assumption) ?_ ?_ | (show (_ : Nat) ≤ _; first | omega | (simp <;> omega)))⟩
  · rw [h1] at hI
    have HI := Lib.hid hI
    rw [h1]
    clear h1 hI
    go_enter Try.func59, Try.ntmps59
    go_wp2_with ((go_at_call 43; refine (HI.out _ (by (go_simp <;> (intros; omega))) (by first | omega | (simp <;> omega))).mono ?_; rintro e w1 ⟨rfl, hb1⟩; have r1 := keep_rowA hb1; have f1 := keep_frA hb1; have s1 := hb1.size; (try simp only [World.size_alloc, World.size_setCell, setRow_size, World.size_drew, size_drewNm] at r1 f1 s1)))
    go_ret
    exact ⟨rfl, by repeat' (first | with_reducible exact Below.refl _ _ | with_reducible assumption | with_reducible refine Below.drew ?_ | with_reducible refine Below.drewN ?_ _ | with_reducible refine Below.alloc ?_ ?_ _ | with_reducible refine Below.setCell ?_ ?_ _ | with_reducible refine Below.setRow ?_ ?_ _ | with_reducible refine below_step (by assumption) ?_ ?_ | (show (_ : Nat) ≤ _; first | omega | (simp <;> omega)))⟩
-- GEN
set_option maxHeartbeats 16000000 in
theorem l06Marks_any (p : Nat) (c : Nat → Int) (hfc : FitSheet c) (v : Value) (n b : Nat) (F : Nat → Mk) (hn : n ≤ 1048576) (hF : ∀ k, k < n → MkIn (F k) ∧ (F k).n ≤ 1048576) (w : World) (hr : rowOf w p = kc sk 266 c) (hp : p < w.heap.size) (h : OwnM w b v n F) :
    Calls Try.prog 33 #[.pointer (some ⟨p, 0, none⟩), v] w fun e w' => e = .returned (.bool (vmB c n F)) ∧ Below w.heap.size w w' := by
  have hV0 := fun w h1 h2 => l01Ok_any p c hfc w h1 h2
  have HH := Lib.hid h
  have HF := Lib.hid hF
  obtain ⟨a, cap, rfl⟩ := h.1.len
  clear h hF
  rcases Bool.eq_false_or_eq_true (okS c) with h1 | h1
  case inr =>
    rw [h1] at hV0
    have HV := Lib.hid hV0
    rw [vm_bad h1]
    clear h1 hV0
    go_enter Try.func33, Try.ntmps33
    go_wp2_with (go_at_call 19; refine (HV.out _ (by (go_simp <;> (intros; omega))) (by first | omega | (simp <;> omega))).mono ?_; rintro e w1 ⟨rfl, hb1⟩; have r1 := keep_rowA hb1; have f1 := keep_frA hb1; have s1 := hb1.size; (try simp only [World.size_alloc, World.size_setCell, setRow_size, World.size_drew, size_drewNm] at r1 f1 s1))
    go_ret
    exact ⟨rfl, by repeat' (first | with_reducible exact Below.refl _ _ | with_reducible assumption | with_reducible refine Below.drew ?_ | with_reducible refine Below.drewN ?_ _ | with_reducible refine Below.alloc ?_ ?_ _ | with_reducible refine Below.setCell ?_ ?_ _ | with_reducible refine Below.setRow ?_ ?_ _ | with_reducible refine below_step (by assumption) ?_ ?_ | (show (_ : Nat) ≤ _; first | omega | (simp <;> omega)))⟩
  rw [h1] at hV0
  have HV := Lib.hid hV0
  clear hV0
  by_cases h6 : n ≤ 6
  case neg =>
    have hg6 : (6 : Int) < (n : Int) := by omega
    rw [vm_many h6]
    clear h1
    go_enter Try.func33, Try.ntmps33
    go_wp2_with (go_at_call 19; refine (HV.out _ (by (go_simp <;> (intros; omega))) (by first | omega | (simp <;> omega))).mono ?_; rintro e w1 ⟨rfl, hb1⟩; have r1 := keep_rowA hb1; have f1 := keep_frA hb1; have s1 := hb1.size; (try simp only [World.size_alloc, World.size_setCell, setRow_size, World.size_drew, size_drewNm] at r1 f1 s1))
    go_ret
    exact ⟨rfl, by repeat' (first | with_reducible exact Below.refl _ _ | with_reducible assumption | with_reducible refine Below.drew ?_ | with_reducible refine Below.drewN ?_ _ | with_reducible refine Below.alloc ?_ ?_ _ | with_reducible refine Below.setCell ?_ ?_ _ | with_reducible refine Below.setRow ?_ ?_ _ | with_reducible refine below_step (by assumption) ?_ ?_ | (show (_ : Nat) ≤ _; first | omega | (simp <;> omega)))⟩
  have hg6 : ¬ (6 : Int) < (n : Int) := by omega
  obtain ⟨W, H, hW, hH, -, -, W8, H8⟩ := okS_sides h1
  have HOK := Lib.hid h1
  clear h1
  go_enter Try.func33, Try.ntmps33
  go_wp2_with (go_at_call 19; refine (HV.out _ (by (go_simp <;> (intros; omega))) (by first | omega | (simp <;> omega))).mono ?_; rintro e w1 ⟨rfl, hb1⟩; have r1 := keep_rowA hb1; have f1 := keep_frA hb1; have s1 := hb1.size; (try simp only [World.size_alloc, World.size_setCell, setRow_size, World.size_drew, size_drewNm] at r1 f1 s1))
  go_loopw [5] (fun i wr => ∃ k : Nat, k ≤ n ∧ i = .int .i64 k ∧ Below w.heap.size w wr ∧ ∀ j, j < k → mkOkB c (F j) = true) (fun i wr => n + 1 - (intOf i).toNat)
  case atStart => exact ⟨0, by omega, rfl, by repeat' (first | with_reducible exact Below.refl _ _ | with_reducible assumption | with_reducible refine Below.drew ?_ | with_reducible refine Below.drewN ?_ _ | with_reducible refine Below.alloc ?_ ?_ _ | with_reducible refine Below.setCell ?_ ?_ _ | with_reducible refine Below.setRow ?_ ?_ _ | with_reducible refine below_step (by assumption) ?_ ?_ | (show (_ : Nat) ≤ _; first | omega | (simp <;> omega))), fun j hj => by omega⟩
  case round =>
    obtain ⟨k, hk, rfl, hb, hall⟩ := hrel
    have HALL := Lib.hid hall
    have hsz0 := hb.size
    clear hall
    by_cases hlt : k < n
    · obtain ⟨g, cap', hv, -, hg, -, hRs, hcells⟩ := HH.out.1.pos (by omega)
      simp only [Value.slice.injEq] at hv
      obtain ⟨rfl, -, rfl⟩ := hv
      obtain ⟨r1, r2⟩ := mk_read (o := 0) (fun j hj => by rw [Nat.zero_add]; exact hcells k hlt j hj)
      rw [Nat.zero_add] at r1 r2
      have hr1 := keep_row hb hg
      rw [← hr1] at r1 r2
      have hgw : g < wr.heap.size := by omega
      have hpr := (keep_row hb hp).trans hr
      have hpw : p < wr.heap.size := by omega
      have hlt2 : (k : Int) < (n : Int) := by omega
      have HKW := Lib.hid ((HH.out.2 k hlt).below hb (Nat.le_refl _))
      obtain ⟨⟨hcol, -, hwf⟩, hm2⟩ := HF.out k hlt
      have hfb : ∀ j, j < (F k).n * 2 → -128 ≤ (F k).f j ∧ (F k).f j ≤ 127 := fun j hj => bd_i8 (hwf j hj)
      have HVN := Lib.hid (fun (h : mkOkB c (F k) = false) => vm_no (c := c) (F := F) hlt h)
      have HNX := Lib.hid (fun (h : mkOkB c (F k) = true) => show ∀ j, j < k + 1 → mkOkB c (F j) = true from fun j hj => by
        rcases Nat.lt_succ_iff_lt_or_eq.1 hj with h2 | rfl
        · exact HALL.out j h2
        · exact h)
      have hwc : IntKind.i64.wrap (F k).col = (F k).col := IntWalk.i64_in _ (by omega)
      have hI1 := fun w => l00In_any (F k).col 0 2 w
      have hI2 := fun w => l00In_any ((F k).n : Int) 1 64 w
      clear hcells hr1 hwf
      obtain ⟨ak, ck, hvk⟩ := (HKW.out).len
      rw [hvk] at r2 HKW
      rcases Bool.eq_false_or_eq_true (inB (F k).col 0 2) with h2 | h2
      case inr =>
        have HV2 := Lib.hid (HVN.out (mk_col h2))
        rw [h2] at hI1
        have HI1 := Lib.hid hI1
        clear hI1 hI2 h2 hvk
        generalize (F k).col = col at *
        generalize (F k).n = m at *
        go_wp2_with (go_at_call 20; (with_reducible refine (HI1.out _).mono ?_); rintro e wz ⟨rfl, rfl⟩)
        go_ret
        exact ⟨by rw [HV2.out]; rfl, by repeat' (first | with_reducible exact Below.refl _ _ | with_reducible assumption | with_reducible refine Below.drew ?_ | with_reducible refine Below.drewN ?_ _ | with_reducible refine Below.alloc ?_ ?_ _ | with_reducible refine Below.setCell ?_ ?_ _ | with_reducible refine Below.setRow ?_ ?_ _ | with_reducible refine below_step (by assumption) ?_ ?_ | (show (_ : Nat) ≤ _; first | omega | (simp <;> omega)))⟩
      rw [h2] at hI1
      have HI1 := Lib.hid hI1
      clear hI1
      rcases Bool.eq_false_or_eq_true (inB ((F k).n : Int) 1 64) with h3 | h3
      case inr =>
        have HV2 := Lib.hid (HVN.out (mk_len h3))
        rw [h3] at hI2
        have HI2 := Lib.hid hI2
        clear hI2 h2 h3 hvk
        generalize (F k).col = col at *
        generalize (F k).n = m at *
        go_wp2_with (first | (go_at_call 20; (with_reducible refine (HI1.out _).mono ?_); rintro e wz ⟨rfl, rfl⟩) | (go_at_call 20; (with_reducible refine (HI2.out _).mono ?_); rintro e wz ⟨rfl, rfl⟩))
        go_ret
        exact ⟨by rw [HV2.out]; rfl, by repeat' (first | with_reducible exact Below.refl _ _ | with_reducible assumption | with_reducible refine Below.drew ?_ | with_reducible refine Below.drewN ?_ _ | with_reducible refine Below.alloc ?_ ?_ _ | with_reducible refine Below.setCell ?_ ?_ _ | with_reducible refine Below.setRow ?_ ?_ _ | with_reducible refine below_step (by assumption) ?_ ?_ | (show (_ : Nat) ≤ _; first | omega | (simp <;> omega)))⟩
      rw [h3] at hI2
      have HI2 := Lib.hid hI2
      have hm1 : 1 ≤ (F k).n := by have := (inB_true.1 h3).1; omega
      obtain ⟨g2, cap2, hv2, -, hg2, -, hRs2, hc2⟩ := HKW.out.pos hm1
      simp only [Value.slice.injEq] at hv2
      obtain ⟨rfl, -, rfl⟩ := hv2
      have HUN := Lib.hid (fun j (hj : j < (F k).n) (h : misU c (F k).f j = true ∨ waxU c (F k).f j = true) => HVN.out (mk_unfree hj h))
      have HDU := Lib.hid (fun (h : ¬ Dis (F k).f (F k).n) => HVN.out (mk_dup (c := c) h))
      have HPA := Lib.hid (fun (h : CellsOkTo c (F k).f (F k).n) => HNX.out (mk_pass h2 h3 h))
      clear hI2 h2 h3 hvk HVN HNX HKW
      generalize (F k).col = col at *
      generalize (F k).n = m at *
      generalize (F k).f = f at *
      have HC2 := Lib.hid hc2
      have HFB := Lib.hid hfb
      obtain ⟨R2, hR2⟩ : ∃ R2, rowOf wr g2 = R2 := ⟨_, rfl⟩
      rw [hR2] at hRs2 HC2
      clear hc2 hfb
      have hao : allOne (mk 64 fun _ => Value.bool false) = true := by kernel_rfl
      have hms : (mk 64 fun _ => Value.bool false).size = 64 := mk_size _ _
      obtain ⟨wo, rfl⟩ : ∃ wo, wo = wr := ⟨_, rfl⟩
      go_wp2_with (first | (go_at_call 20; (with_reducible refine (HI1.out _).mono ?_); rintro e wz ⟨rfl, rfl⟩) | (go_at_call 20; (with_reducible refine (HI2.out _).mono ?_); rintro e wz ⟨rfl, rfl⟩))
      have hZ : ∀ t, t < 64 → (mk 64 fun _ => Value.bool false)[t]? = some (.bool (snB f 0 t)) := fun t ht => by rw [mk_get _ _ _ ht, snB_zero]
      generalize (mk 64 fun _ => Value.bool false) = Z at *
      have HZ := Lib.hid hZ
      clear hZ
      go_loopw [8] (fun i wx => ∃ (q : Nat) (D : Array Value), q ≤ m ∧ i = .int .i64 q ∧ Below w.heap.size w wx ∧ Below wo.heap.size wo wx ∧ wo.heap.size + 1 ≤ wx.heap.size ∧ rowOf wx wo.heap.size = D ∧ frOf wx wo.heap.size = (0, 0) ∧ D.size = 64 ∧ (∀ t, t < 64 → D[t]? = some (.bool (snB f q t))) ∧ CellsOkTo c f q) (fun i wx => m + 1 - (intOf i).toNat)
      case atStart => exact ⟨0, Z, by omega, rfl, by repeat' (first | with_reducible exact Below.refl _ _ | with_reducible assumption | with_reducible refine Below.drew ?_ | with_reducible refine Below.drewN ?_ _ | with_reducible refine Below.alloc ?_ ?_ _ | with_reducible refine Below.setCell ?_ ?_ _ | with_reducible refine Below.setRow ?_ ?_ _ | with_reducible refine below_step (by assumption) ?_ ?_ | (show (_ : Nat) ≤ _; first | omega | (simp <;> omega))), by repeat' (first | with_reducible exact Below.refl _ _ | with_reducible assumption | with_reducible refine Below.drew ?_ | with_reducible refine Below.drewN ?_ _ | with_reducible refine Below.alloc ?_ ?_ _ | with_reducible refine Below.setCell ?_ ?_ _ | with_reducible refine Below.setRow ?_ ?_ _ | with_reducible refine below_step (by assumption) ?_ ?_ | (show (_ : Nat) ≤ _; first | omega | (simp <;> omega))), by simp, by (go_simp <;> (intros; omega)), by (go_simp <;> (intros; omega)), hms, HZ.out, ⟨fun j hj => by omega, fun i j hij hj => by omega⟩⟩
      case round =>
        clear hb hpr hpw r1 r2 hgw
        obtain ⟨q, D, hqm, rfl, hb, hbo, hsz, hrD, hfD, hDs, hDc, hco⟩ := hrel
        have HDC := Lib.hid hDc
        have HCO := Lib.hid hco
        have hsz1 := hb.size
        clear hDc hco
        by_cases hqlt : q < m
        · have e1 := HC2.out (q * 2) (by omega)
          have e2 := HC2.out (q * 2 + 1) (by omega)
          have hR2x : rowOf wr g2 = R2 := (keep_row hbo hg2).trans hR2
          have hg2w : g2 < wr.heap.size := by omega
          have hpr := (keep_row hb hp).trans hr
          have hpw : p < wr.heap.size := by omega
          have hq2 : (q : Int) < (m : Int) := by omega
          have hR2s : q * 2 + 2 ≤ R2.size := by omega
          have hX := HFB.out (q * 2) (by omega)
          have hY := HFB.out (q * 2 + 1) (by omega)
          have hw1 : IntKind.i64.wrap ((q : Int) + 1) = ((q + 1 : Nat) : Int) := by rw [IntWalk.i64_in _ (by omega)]; rfl
          have hFR := fun w h1 h2 => l02Free_any p c hfc W H hW hH W8 H8 (f (q * 2)) (f (q * 2 + 1)) hX hY w h1 h2
          rcases Bool.eq_false_or_eq_true (isP c (f (q * 2)) (f (q * 2 + 1)) && !(waxS c (f (q * 2)).toNat (f (q * 2 + 1)).toNat)) with hs | hs
          case inr =>
            have HV2 := Lib.hid (HUN.out q hqlt (by
              unfold misU waxU
              rcases Bool.eq_false_or_eq_true (isP c (f (q * 2)) (f (q * 2 + 1))) with g1 | g1
              · rw [g1, Bool.true_and] at hs
                exact .inr (by simpa using hs)
              · exact .inl (by rw [g1]; rfl)))
            rw [hs] at hFR
            have HFR := Lib.hid hFR
            clear hFR hs
            generalize f (q * 2) = fx at *
            generalize f (q * 2 + 1) = fy at *
            go_wp2
            (refine wp_region_held (S := fun w' => rowOf w' (g2) = R2 ∧ rowOf w' (wo.heap.size) = D) (by kernel_rfl) ?_); (simp only [World.drew_eq]); (refine wpAnyH_take (i := 0) rfl (by kernel_rfl) (by kernel_rfl) (by kernel_rfl) (fun _ _ _ h => h) (yieldsIf_move rfl rfl) ⟨by go_simp, by go_simp⟩ ?_); (try simp only [Act.put, Act.eval, List.getElem_toArray, List.getElem_cons_zero, List.getElem_cons_succ, List.setIfInBounds_toArray, List.set_cons_zero, List.set_cons_succ, Array.getD_eq_getD_getElem?, List.getElem?_toArray, List.getElem?_cons_zero, List.getElem?_cons_succ, Option.getD_some]); (refine wpAnyH_take (i := 1) rfl (by kernel_rfl) (by kernel_rfl) (by kernel_rfl) (fun _ _ _ h => h) (yieldsIf_move rfl rfl) ⟨by go_simp, by go_simp⟩ ?_); (try simp only [Act.put, Act.eval, List.getElem_toArray, List.getElem_cons_zero, List.getElem_cons_succ, List.setIfInBounds_toArray, List.set_cons_zero, List.set_cons_succ, Array.getD_eq_getD_getElem?, List.getElem?_toArray, List.getElem?_cons_zero, List.getElem?_cons_succ, Option.getD_some]); (refine wpAnyH_take (i := 2) rfl (by kernel_rfl) (by kernel_rfl) (by kernel_rfl) (fun _ _ _ h => h) (yieldsIf_move rfl rfl) ⟨by go_simp, by go_simp⟩ ?_); (try simp only [Act.put, Act.eval, List.getElem_toArray, List.getElem_cons_zero, List.getElem_cons_succ, List.setIfInBounds_toArray, List.set_cons_zero, List.set_cons_succ, Array.getD_eq_getD_getElem?, List.getElem?_toArray, List.getElem?_cons_zero, List.getElem?_cons_succ, Option.getD_some]); (refine wpAnyH_take (i := 3) (v := .pointer (some ⟨g2, q * 2, none⟩)) rfl (by kernel_rfl) (by kernel_rfl) (by kernel_rfl) (fun _ _ _ h => h) (.inl ⟨by first | (simp [Region.wanted]; done) | rfl | simp [Region.wanted, yielded], fun w _ => by unfold execOp; go_simp⟩) ⟨by go_simp, by go_simp⟩ ?_); (try simp only [Act.put, Act.eval, List.getElem_toArray, List.getElem_cons_zero, List.getElem_cons_succ, List.setIfInBounds_toArray, List.set_cons_zero, List.set_cons_succ, Array.getD_eq_getD_getElem?, List.getElem?_toArray, List.getElem?_cons_zero, List.getElem?_cons_succ, Option.getD_some]); (refine wpAnyH_take (i := 4) rfl (by kernel_rfl) (by kernel_rfl) (by kernel_rfl) (fun _ _ _ h => h) (yieldsIf_load (v := .agg #[.int .i8 fx, .int .i8 fy]) rfl rfl rfl (fun w ⟨h0, h1⟩ => by go_simp)) ⟨by go_simp, by go_simp⟩ ?_); (try simp only [Act.put, Act.eval, List.getElem_toArray, List.getElem_cons_zero, List.getElem_cons_succ, List.setIfInBounds_toArray, List.set_cons_zero, List.set_cons_succ, Array.getD_eq_getD_getElem?, List.getElem?_toArray, List.getElem?_cons_zero, List.getElem?_cons_succ, Option.getD_some]); (refine wpAnyH_one (i := 5) (by kernel_rfl) rfl rfl ?_); (go_simp); (first | (go_at_call 59; refine (HFR.out _ (by go_simp) (by first | omega | (simp <;> omega))).mono ?_; rintro e wf ⟨rfl, hbf⟩; have r_hbf := keep_rowA hbf; have f_hbf := keep_frA hbf; have s_hbf := hbf.size; (try simp only [World.size_alloc, World.size_setCell, setRow_size, World.size_drew, size_drewNm] at r_hbf f_hbf s_hbf))); (refine ⟨⟨by go_simp, by go_simp⟩, ?_⟩); (try simp only [Act.put, Act.eval, List.getElem_toArray, List.getElem_cons_zero, List.getElem_cons_succ, List.setIfInBounds_toArray, List.set_cons_zero, List.set_cons_succ, Array.getD_eq_getD_getElem?, List.getElem?_toArray, List.getElem?_cons_zero, List.getElem?_cons_succ, Option.getD_some]); (refine wpAnyH_take (i := 6) (v := .bool true) rfl (by kernel_rfl) (by kernel_rfl) (by kernel_rfl) (fun _ _ _ h => h) (.inl ⟨by first | (simp [Region.wanted]; done) | rfl | simp [Region.wanted, yielded], fun w _ => by unfold execOp; go_simp⟩) ⟨by go_simp, by go_simp⟩ ?_); (try simp only [Act.put, Act.eval, List.getElem_toArray, List.getElem_cons_zero, List.getElem_cons_succ, List.setIfInBounds_toArray, List.set_cons_zero, List.set_cons_succ, Array.getD_eq_getD_getElem?, List.getElem?_toArray, List.getElem?_cons_zero, List.getElem?_cons_succ, Option.getD_some]); (refine wpAnyH_take (i := 7) (v := .bool true) rfl (by kernel_rfl) (by kernel_rfl) (by kernel_rfl) (fun _ _ _ h => h) (.inl ⟨by first | (simp [Region.wanted]; done) | rfl | simp [Region.wanted, yielded], fun w _ => by unfold execOp; go_simp⟩) ⟨by go_simp, by go_simp⟩ ?_); (try simp only [Act.put, Act.eval, List.getElem_toArray, List.getElem_cons_zero, List.getElem_cons_succ, List.setIfInBounds_toArray, List.set_cons_zero, List.set_cons_succ, Array.getD_eq_getD_getElem?, List.getElem?_toArray, List.getElem?_cons_zero, List.getElem?_cons_succ, Option.getD_some]); (refine wpAnyH_take (i := 8) (v := undef) rfl (by kernel_rfl) (by kernel_rfl) (by kernel_rfl) (fun _ _ _ h => h) (.inr ⟨by first | rfl | simp [Region.wanted, yielded], rfl⟩) ⟨by go_simp, by go_simp⟩ ?_); (try simp only [Act.put, Act.eval, List.getElem_toArray, List.getElem_cons_zero, List.getElem_cons_succ, List.setIfInBounds_toArray, List.set_cons_zero, List.set_cons_succ, Array.getD_eq_getD_getElem?, List.getElem?_toArray, List.getElem?_cons_zero, List.getElem?_cons_succ, Option.getD_some]); (refine wpAnyH_take (i := 9) (v := undef) rfl (by kernel_rfl) (by kernel_rfl) (by kernel_rfl) (fun _ _ _ h => h) (.inr ⟨by first | rfl | simp [Region.wanted, yielded], rfl⟩) ⟨by go_simp, by go_simp⟩ ?_); (try simp only [Act.put, Act.eval, List.getElem_toArray, List.getElem_cons_zero, List.getElem_cons_succ, List.setIfInBounds_toArray, List.set_cons_zero, List.set_cons_succ, Array.getD_eq_getD_getElem?, List.getElem?_toArray, List.getElem?_cons_zero, List.getElem?_cons_succ, Option.getD_some]); (refine wpAnyH_take (i := 10) (v := undef) rfl (by kernel_rfl) (by kernel_rfl) (by kernel_rfl) (fun _ _ _ h => h) (.inr ⟨by first | rfl | simp [Region.wanted, yielded], rfl⟩) ⟨by go_simp, by go_simp⟩ ?_); (try simp only [Act.put, Act.eval, List.getElem_toArray, List.getElem_cons_zero, List.getElem_cons_succ, List.setIfInBounds_toArray, List.set_cons_zero, List.set_cons_succ, Array.getD_eq_getD_getElem?, List.getElem?_toArray, List.getElem?_cons_zero, List.getElem?_cons_succ, Option.getD_some]); (refine wpAnyH_take (i := 11) (v := undef) rfl (by kernel_rfl) (by kernel_rfl) (by kernel_rfl) (fun _ _ _ h => h) (.inr ⟨by first | rfl | simp [Region.wanted, yielded], rfl⟩) ⟨by go_simp, by go_simp⟩ ?_); (try simp only [Act.put, Act.eval, List.getElem_toArray, List.getElem_cons_zero, List.getElem_cons_succ, List.setIfInBounds_toArray, List.set_cons_zero, List.set_cons_succ, Array.getD_eq_getD_getElem?, List.getElem?_toArray, List.getElem?_cons_zero, List.getElem?_cons_succ, Option.getD_some]); (refine wpAnyH_take (i := 12) (v := undef) rfl (by kernel_rfl) (by kernel_rfl) (by kernel_rfl) (fun _ _ _ h => h) (.inr ⟨by first | rfl | simp [Region.wanted, yielded], rfl⟩) ⟨by go_simp, by go_simp⟩ ?_); (try simp only [Act.put, Act.eval, List.getElem_toArray, List.getElem_cons_zero, List.getElem_cons_succ, List.setIfInBounds_toArray, List.set_cons_zero, List.set_cons_succ, Array.getD_eq_getD_getElem?, List.getElem?_toArray, List.getElem?_cons_zero, List.getElem?_cons_succ, Option.getD_some]); (refine wpAnyH_take (i := 13) (v := undef) rfl (by kernel_rfl) (by kernel_rfl) (by kernel_rfl) (fun _ _ _ h => h) (.inr ⟨by first | rfl | simp [Region.wanted, yielded], rfl⟩) ⟨by go_simp, by go_simp⟩ ?_); (try simp only [Act.put, Act.eval, List.getElem_toArray, List.getElem_cons_zero, List.getElem_cons_succ, List.setIfInBounds_toArray, List.set_cons_zero, List.set_cons_succ, Array.getD_eq_getD_getElem?, List.getElem?_toArray, List.getElem?_cons_zero, List.getElem?_cons_succ, Option.getD_some]); (refine wpAnyH_take (i := 14) (v := undef) rfl (by kernel_rfl) (by kernel_rfl) (by kernel_rfl) (fun _ _ _ h => h) (.inr ⟨by first | rfl | simp [Region.wanted, yielded], rfl⟩) ⟨by go_simp, by go_simp⟩ ?_); (try simp only [Act.put, Act.eval, List.getElem_toArray, List.getElem_cons_zero, List.getElem_cons_succ, List.setIfInBounds_toArray, List.set_cons_zero, List.set_cons_succ, Array.getD_eq_getD_getElem?, List.getElem?_toArray, List.getElem?_cons_zero, List.getElem?_cons_succ, Option.getD_some]); (refine wpAnyH_take (i := 15) (v := undef) rfl (by kernel_rfl) (by kernel_rfl) (by kernel_rfl) (fun _ _ _ h => h) (.inr ⟨by first | rfl | simp [Region.wanted, yielded], rfl⟩) ⟨by go_simp, by go_simp⟩ ?_); (try simp only [Act.put, Act.eval, List.getElem_toArray, List.getElem_cons_zero, List.getElem_cons_succ, List.setIfInBounds_toArray, List.set_cons_zero, List.set_cons_succ, Array.getD_eq_getD_getElem?, List.getElem?_toArray, List.getElem?_cons_zero, List.getElem?_cons_succ, Option.getD_some]); (refine wpAnyH_take (i := 16) (v := undef) rfl (by kernel_rfl) (by kernel_rfl) (by kernel_rfl) (fun _ _ _ h => h) (.inr ⟨by first | rfl | simp [Region.wanted, yielded], rfl⟩) ⟨by go_simp, by go_simp⟩ ?_); (try simp only [Act.put, Act.eval, List.getElem_toArray, List.getElem_cons_zero, List.getElem_cons_succ, List.setIfInBounds_toArray, List.set_cons_zero, List.set_cons_succ, Array.getD_eq_getD_getElem?, List.getElem?_toArray, List.getElem?_cons_zero, List.getElem?_cons_succ, Option.getD_some]); (refine wpAnyH_take (i := 17) (v := undef) rfl (by kernel_rfl) (by kernel_rfl) (by kernel_rfl) (fun _ _ _ h => h) (.inr ⟨by first | rfl | simp [Region.wanted, yielded], rfl⟩) ⟨by go_simp, by go_simp⟩ ?_); (try simp only [Act.put, Act.eval, List.getElem_toArray, List.getElem_cons_zero, List.getElem_cons_succ, List.setIfInBounds_toArray, List.set_cons_zero, List.set_cons_succ, Array.getD_eq_getD_getElem?, List.getElem?_toArray, List.getElem?_cons_zero, List.getElem?_cons_succ, Option.getD_some]); (refine wpAnyH_take (i := 18) (v := undef) rfl (by kernel_rfl) (by kernel_rfl) (by kernel_rfl) (fun _ _ _ h => h) (.inr ⟨by first | rfl | simp [Region.wanted, yielded], rfl⟩) ⟨by go_simp, by go_simp⟩ ?_); (try simp only [Act.put, Act.eval, List.getElem_toArray, List.getElem_cons_zero, List.getElem_cons_succ, List.setIfInBounds_toArray, List.set_cons_zero, List.set_cons_succ, Array.getD_eq_getD_getElem?, List.getElem?_toArray, List.getElem?_cons_zero, List.getElem?_cons_succ, Option.getD_some]); (refine wpAnyH_take (i := 19) (v := undef) rfl (by kernel_rfl) (by kernel_rfl) (by kernel_rfl) (fun _ _ _ h => h) (.inr ⟨by first | rfl | simp [Region.wanted, yielded], rfl⟩) ⟨by go_simp, by go_simp⟩ ?_); (try simp only [Act.put, Act.eval, List.getElem_toArray, List.getElem_cons_zero, List.getElem_cons_succ, List.setIfInBounds_toArray, List.set_cons_zero, List.set_cons_succ, Array.getD_eq_getD_getElem?, List.getElem?_toArray, List.getElem?_cons_zero, List.getElem?_cons_succ, Option.getD_some]); (refine wpAnyH_take (i := 20) (v := undef) rfl (by kernel_rfl) (by kernel_rfl) (by kernel_rfl) (fun _ _ _ h => h) (.inr ⟨by first | rfl | simp [Region.wanted, yielded], rfl⟩) ⟨by go_simp, by go_simp⟩ ?_); (try simp only [Act.put, Act.eval, List.getElem_toArray, List.getElem_cons_zero, List.getElem_cons_succ, List.setIfInBounds_toArray, List.set_cons_zero, List.set_cons_succ, Array.getD_eq_getD_getElem?, List.getElem?_toArray, List.getElem?_cons_zero, List.getElem?_cons_succ, Option.getD_some]); (refine wpAnyH_take (i := 21) (v := .bool true) rfl (by kernel_rfl) (by kernel_rfl) (by kernel_rfl) (fun _ _ _ h => h) (.inl ⟨by first | (simp [Region.wanted]; done) | rfl | simp [Region.wanted, yielded], fun w _ => by unfold execOp; go_simp⟩) ⟨by go_simp, by go_simp⟩ ?_); (try simp only [Act.put, Act.eval, List.getElem_toArray, List.getElem_cons_zero, List.getElem_cons_succ, List.setIfInBounds_toArray, List.set_cons_zero, List.set_cons_succ, Array.getD_eq_getD_getElem?, List.getElem?_toArray, List.getElem?_cons_zero, List.getElem?_cons_succ, Option.getD_some]); (refine wpAnyH_done (by kernel_rfl) ?_ _)
            go_wp2
            go_ret
            exact ⟨by rw [HV2.out]; rfl, by repeat' (first | with_reducible exact Below.refl _ _ | with_reducible assumption | with_reducible refine Below.drew ?_ | with_reducible refine Below.drewN ?_ _ | with_reducible refine Below.alloc ?_ ?_ _ | with_reducible refine Below.setCell ?_ ?_ _ | with_reducible refine Below.setRow ?_ ?_ _ | with_reducible refine below_step (by assumption) ?_ ?_ | (show (_ : Nat) ≤ _; first | omega | (simp <;> omega)))⟩
          rw [hs] at hFR
          rw [Bool.and_eq_true] at hs
          obtain ⟨x, y, hx8, hy8, hfx, hfy⟩ := isP_in hW hH W8 H8 hs.1
          have hs1 := hs.1
          have hs2 := hs.2
          rw [hfx, hfy] at hs1 hs2 hFR
          simp only [Int.toNat_natCast, Bool.not_eq_true'] at hs2
          have HFR := Lib.hid hFR
          rw [hfx] at e1
          rw [hfy] at e2
          have hDq := HDC.out (y * 8 + x) (by omega)
          have hxi : (x : Int) < 8 := by omega
          have hyi : (y : Int) < 8 := by omega
          have hDs2 : y * 8 + x < D.size := by omega
          rcases Bool.eq_false_or_eq_true (snB f q (y * 8 + x)) with hsn | hsn
          · have HV2 := Lib.hid (HDU.out (cells_seen hW hH W8 H8 hqlt hx8 hy8 hfx hfy HCO.out hsn))
            rw [hsn] at hDq
            clear hFR hs hs1 hs2 hsn hfx hfy
            obtain ⟨sv, hsv⟩ : ∃ sv, sv = true := ⟨_, rfl⟩
            rw [← hsv] at hDq
            have HSV := Lib.hid hsv
            clear hsv
            go_wp2
            (refine wp_region_held (S := fun w' => rowOf w' (g2) = R2 ∧ rowOf w' (wo.heap.size) = D) (by kernel_rfl) ?_); (simp only [World.drew_eq]); (refine wpAnyH_take (i := 0) rfl (by kernel_rfl) (by kernel_rfl) (by kernel_rfl) (fun _ _ _ h => h) (yieldsIf_move rfl rfl) ⟨by go_simp, by go_simp⟩ ?_); (try simp only [Act.put, Act.eval, List.getElem_toArray, List.getElem_cons_zero, List.getElem_cons_succ, List.setIfInBounds_toArray, List.set_cons_zero, List.set_cons_succ, Array.getD_eq_getD_getElem?, List.getElem?_toArray, List.getElem?_cons_zero, List.getElem?_cons_succ, Option.getD_some]); (refine wpAnyH_take (i := 1) rfl (by kernel_rfl) (by kernel_rfl) (by kernel_rfl) (fun _ _ _ h => h) (yieldsIf_move rfl rfl) ⟨by go_simp, by go_simp⟩ ?_); (try simp only [Act.put, Act.eval, List.getElem_toArray, List.getElem_cons_zero, List.getElem_cons_succ, List.setIfInBounds_toArray, List.set_cons_zero, List.set_cons_succ, Array.getD_eq_getD_getElem?, List.getElem?_toArray, List.getElem?_cons_zero, List.getElem?_cons_succ, Option.getD_some]); (refine wpAnyH_take (i := 2) rfl (by kernel_rfl) (by kernel_rfl) (by kernel_rfl) (fun _ _ _ h => h) (yieldsIf_move rfl rfl) ⟨by go_simp, by go_simp⟩ ?_); (try simp only [Act.put, Act.eval, List.getElem_toArray, List.getElem_cons_zero, List.getElem_cons_succ, List.setIfInBounds_toArray, List.set_cons_zero, List.set_cons_succ, Array.getD_eq_getD_getElem?, List.getElem?_toArray, List.getElem?_cons_zero, List.getElem?_cons_succ, Option.getD_some]); (refine wpAnyH_take (i := 3) (v := .pointer (some ⟨g2, q * 2, none⟩)) rfl (by kernel_rfl) (by kernel_rfl) (by kernel_rfl) (fun _ _ _ h => h) (.inl ⟨by first | (simp [Region.wanted]; done) | rfl | simp [Region.wanted, yielded], fun w _ => by unfold execOp; go_simp⟩) ⟨by go_simp, by go_simp⟩ ?_); (try simp only [Act.put, Act.eval, List.getElem_toArray, List.getElem_cons_zero, List.getElem_cons_succ, List.setIfInBounds_toArray, List.set_cons_zero, List.set_cons_succ, Array.getD_eq_getD_getElem?, List.getElem?_toArray, List.getElem?_cons_zero, List.getElem?_cons_succ, Option.getD_some]); (refine wpAnyH_take (i := 4) rfl (by kernel_rfl) (by kernel_rfl) (by kernel_rfl) (fun _ _ _ h => h) (yieldsIf_load (v := .agg #[.int .i8 (x : Int), .int .i8 (y : Int)]) rfl rfl rfl (fun w ⟨h0, h1⟩ => by go_simp)) ⟨by go_simp, by go_simp⟩ ?_); (try simp only [Act.put, Act.eval, List.getElem_toArray, List.getElem_cons_zero, List.getElem_cons_succ, List.setIfInBounds_toArray, List.set_cons_zero, List.set_cons_succ, Array.getD_eq_getD_getElem?, List.getElem?_toArray, List.getElem?_cons_zero, List.getElem?_cons_succ, Option.getD_some]); (refine wpAnyH_one (i := 5) (by kernel_rfl) rfl rfl ?_); (go_simp); (first | (go_at_call 59; refine (HFR.out _ (by go_simp) (by first | omega | (simp <;> omega))).mono ?_; rintro e wf ⟨rfl, hbf⟩; have r_hbf := keep_rowA hbf; have f_hbf := keep_frA hbf; have s_hbf := hbf.size; (try simp only [World.size_alloc, World.size_setCell, setRow_size, World.size_drew, size_drewNm] at r_hbf f_hbf s_hbf))); (refine ⟨⟨by go_simp, by go_simp⟩, ?_⟩); (try simp only [Act.put, Act.eval, List.getElem_toArray, List.getElem_cons_zero, List.getElem_cons_succ, List.setIfInBounds_toArray, List.set_cons_zero, List.set_cons_succ, Array.getD_eq_getD_getElem?, List.getElem?_toArray, List.getElem?_cons_zero, List.getElem?_cons_succ, Option.getD_some]); (refine wpAnyH_take (i := 6) (v := .bool false) rfl (by kernel_rfl) (by kernel_rfl) (by kernel_rfl) (fun _ _ _ h => h) (.inl ⟨by first | (simp [Region.wanted]; done) | rfl | simp [Region.wanted, yielded], fun w _ => by unfold execOp; go_simp⟩) ⟨by go_simp, by go_simp⟩ ?_); (try simp only [Act.put, Act.eval, List.getElem_toArray, List.getElem_cons_zero, List.getElem_cons_succ, List.setIfInBounds_toArray, List.set_cons_zero, List.set_cons_succ, Array.getD_eq_getD_getElem?, List.getElem?_toArray, List.getElem?_cons_zero, List.getElem?_cons_succ, Option.getD_some]); (refine wpAnyH_take (i := 7) (v := .bool false) rfl (by kernel_rfl) (by kernel_rfl) (by kernel_rfl) (fun _ _ _ h => h) (.inl ⟨by first | (simp [Region.wanted]; done) | rfl | simp [Region.wanted, yielded], fun w _ => by unfold execOp; go_simp⟩) ⟨by go_simp, by go_simp⟩ ?_); (try simp only [Act.put, Act.eval, List.getElem_toArray, List.getElem_cons_zero, List.getElem_cons_succ, List.setIfInBounds_toArray, List.set_cons_zero, List.set_cons_succ, Array.getD_eq_getD_getElem?, List.getElem?_toArray, List.getElem?_cons_zero, List.getElem?_cons_succ, Option.getD_some]); (refine wpAnyH_take (i := 8) (v := .slice (some ⟨g2, 0, none⟩) m ck) rfl (by kernel_rfl) (by kernel_rfl) (by kernel_rfl) (fun _ _ _ h => h) (.inl ⟨by first | (simp [Region.wanted]; done) | rfl | simp [Region.wanted, yielded], fun w _ => by unfold execOp; go_simp⟩) ⟨by go_simp, by go_simp⟩ ?_); (try simp only [Act.put, Act.eval, List.getElem_toArray, List.getElem_cons_zero, List.getElem_cons_succ, List.setIfInBounds_toArray, List.set_cons_zero, List.set_cons_succ, Array.getD_eq_getD_getElem?, List.getElem?_toArray, List.getElem?_cons_zero, List.getElem?_cons_succ, Option.getD_some]); (refine wpAnyH_take (i := 9) (v := .int .i64 (q : Int)) rfl (by kernel_rfl) (by kernel_rfl) (by kernel_rfl) (fun _ _ _ h => h) (.inl ⟨by first | (simp [Region.wanted]; done) | rfl | simp [Region.wanted, yielded], fun w _ => by unfold execOp; go_simp⟩) ⟨by go_simp, by go_simp⟩ ?_); (try simp only [Act.put, Act.eval, List.getElem_toArray, List.getElem_cons_zero, List.getElem_cons_succ, List.setIfInBounds_toArray, List.set_cons_zero, List.set_cons_succ, Array.getD_eq_getD_getElem?, List.getElem?_toArray, List.getElem?_cons_zero, List.getElem?_cons_succ, Option.getD_some]); (refine wpAnyH_take (i := 10) (v := .pointer (some ⟨g2, q * 2, none⟩)) rfl (by kernel_rfl) (by kernel_rfl) (by kernel_rfl) (fun _ _ _ h => h) (.inl ⟨by first | (simp [Region.wanted]; done) | rfl | simp [Region.wanted, yielded], fun w _ => by unfold execOp; go_simp⟩) ⟨by go_simp, by go_simp⟩ ?_); (try simp only [Act.put, Act.eval, List.getElem_toArray, List.getElem_cons_zero, List.getElem_cons_succ, List.setIfInBounds_toArray, List.set_cons_zero, List.set_cons_succ, Array.getD_eq_getD_getElem?, List.getElem?_toArray, List.getElem?_cons_zero, List.getElem?_cons_succ, Option.getD_some]); (refine wpAnyH_take (i := 11) (v := .pointer (some ⟨g2, q * 2 + 1, none⟩)) rfl (by kernel_rfl) (by kernel_rfl) (by kernel_rfl) (fun _ _ _ h => h) (.inl ⟨by first | (simp [Region.wanted]; done) | rfl | simp [Region.wanted, yielded], fun w _ => by unfold execOp; go_simp⟩) ⟨by go_simp, by go_simp⟩ ?_); (try simp only [Act.put, Act.eval, List.getElem_toArray, List.getElem_cons_zero, List.getElem_cons_succ, List.setIfInBounds_toArray, List.set_cons_zero, List.set_cons_succ, Array.getD_eq_getD_getElem?, List.getElem?_toArray, List.getElem?_cons_zero, List.getElem?_cons_succ, Option.getD_some]); (refine wpAnyH_take (i := 12) (v := .int .i8 (y : Int)) rfl (by kernel_rfl) (by kernel_rfl) (by kernel_rfl) (fun _ _ _ h => h) (.inl ⟨by first | (simp [Region.wanted]; done) | rfl | simp [Region.wanted, yielded], fun w ⟨h0, h1⟩ => by unfold execOp; go_simp⟩) ⟨by go_simp, by go_simp⟩ ?_); (try simp only [Act.put, Act.eval, List.getElem_toArray, List.getElem_cons_zero, List.getElem_cons_succ, List.setIfInBounds_toArray, List.set_cons_zero, List.set_cons_succ, Array.getD_eq_getD_getElem?, List.getElem?_toArray, List.getElem?_cons_zero, List.getElem?_cons_succ, Option.getD_some]); (refine wpAnyH_take (i := 13) (v := .slice (some ⟨g2, 0, none⟩) m ck) rfl (by kernel_rfl) (by kernel_rfl) (by kernel_rfl) (fun _ _ _ h => h) (.inl ⟨by first | (simp [Region.wanted]; done) | rfl | simp [Region.wanted, yielded], fun w _ => by unfold execOp; go_simp⟩) ⟨by go_simp, by go_simp⟩ ?_); (try simp only [Act.put, Act.eval, List.getElem_toArray, List.getElem_cons_zero, List.getElem_cons_succ, List.setIfInBounds_toArray, List.set_cons_zero, List.set_cons_succ, Array.getD_eq_getD_getElem?, List.getElem?_toArray, List.getElem?_cons_zero, List.getElem?_cons_succ, Option.getD_some]); (refine wpAnyH_take (i := 14) (v := .int .i64 (q : Int)) rfl (by kernel_rfl) (by kernel_rfl) (by kernel_rfl) (fun _ _ _ h => h) (.inl ⟨by first | (simp [Region.wanted]; done) | rfl | simp [Region.wanted, yielded], fun w _ => by unfold execOp; go_simp⟩) ⟨by go_simp, by go_simp⟩ ?_); (try simp only [Act.put, Act.eval, List.getElem_toArray, List.getElem_cons_zero, List.getElem_cons_succ, List.setIfInBounds_toArray, List.set_cons_zero, List.set_cons_succ, Array.getD_eq_getD_getElem?, List.getElem?_toArray, List.getElem?_cons_zero, List.getElem?_cons_succ, Option.getD_some]); (refine wpAnyH_take (i := 15) (v := .pointer (some ⟨g2, q * 2, none⟩)) rfl (by kernel_rfl) (by kernel_rfl) (by kernel_rfl) (fun _ _ _ h => h) (.inl ⟨by first | (simp [Region.wanted]; done) | rfl | simp [Region.wanted, yielded], fun w _ => by unfold execOp; go_simp⟩) ⟨by go_simp, by go_simp⟩ ?_); (try simp only [Act.put, Act.eval, List.getElem_toArray, List.getElem_cons_zero, List.getElem_cons_succ, List.setIfInBounds_toArray, List.set_cons_zero, List.set_cons_succ, Array.getD_eq_getD_getElem?, List.getElem?_toArray, List.getElem?_cons_zero, List.getElem?_cons_succ, Option.getD_some]); (refine wpAnyH_take (i := 16) (v := .pointer (some ⟨g2, q * 2, none⟩)) rfl (by kernel_rfl) (by kernel_rfl) (by kernel_rfl) (fun _ _ _ h => h) (.inl ⟨by first | (simp [Region.wanted]; done) | rfl | simp [Region.wanted, yielded], fun w _ => by unfold execOp; go_simp⟩) ⟨by go_simp, by go_simp⟩ ?_); (try simp only [Act.put, Act.eval, List.getElem_toArray, List.getElem_cons_zero, List.getElem_cons_succ, List.setIfInBounds_toArray, List.set_cons_zero, List.set_cons_succ, Array.getD_eq_getD_getElem?, List.getElem?_toArray, List.getElem?_cons_zero, List.getElem?_cons_succ, Option.getD_some]); (refine wpAnyH_take (i := 17) (v := .int .i8 (x : Int)) rfl (by kernel_rfl) (by kernel_rfl) (by kernel_rfl) (fun _ _ _ h => h) (.inl ⟨by first | (simp [Region.wanted]; done) | rfl | simp [Region.wanted, yielded], fun w ⟨h0, h1⟩ => by unfold execOp; go_simp⟩) ⟨by go_simp, by go_simp⟩ ?_); (try simp only [Act.put, Act.eval, List.getElem_toArray, List.getElem_cons_zero, List.getElem_cons_succ, List.setIfInBounds_toArray, List.set_cons_zero, List.set_cons_succ, Array.getD_eq_getD_getElem?, List.getElem?_toArray, List.getElem?_cons_zero, List.getElem?_cons_succ, Option.getD_some]); (refine wpAnyH_take (i := 18) (v := .pointer (some ⟨wo.heap.size, y * 8, none⟩)) rfl (by kernel_rfl) (by kernel_rfl) (by kernel_rfl) (fun _ _ _ h => h) (.inl ⟨by first | (simp [Region.wanted]; done) | rfl | simp [Region.wanted, yielded], fun w _ => by unfold execOp; go_simp⟩) ⟨by go_simp, by go_simp⟩ ?_); (try simp only [Act.put, Act.eval, List.getElem_toArray, List.getElem_cons_zero, List.getElem_cons_succ, List.setIfInBounds_toArray, List.set_cons_zero, List.set_cons_succ, Array.getD_eq_getD_getElem?, List.getElem?_toArray, List.getElem?_cons_zero, List.getElem?_cons_succ, Option.getD_some]); (refine wpAnyH_take (i := 19) (v := .pointer (some ⟨wo.heap.size, y * 8 + x, none⟩)) rfl (by kernel_rfl) (by kernel_rfl) (by kernel_rfl) (fun _ _ _ h => h) (.inl ⟨by first | (simp [Region.wanted]; done) | rfl | simp [Region.wanted, yielded], fun w _ => by unfold execOp; go_simp⟩) ⟨by go_simp, by go_simp⟩ ?_); (try simp only [Act.put, Act.eval, List.getElem_toArray, List.getElem_cons_zero, List.getElem_cons_succ, List.setIfInBounds_toArray, List.set_cons_zero, List.set_cons_succ, Array.getD_eq_getD_getElem?, List.getElem?_toArray, List.getElem?_cons_zero, List.getElem?_cons_succ, Option.getD_some]); (refine wpAnyH_take (i := 20) (v := .bool sv) rfl (by kernel_rfl) (by kernel_rfl) (by kernel_rfl) (fun _ _ _ h => h) (.inl ⟨by first | (simp [Region.wanted]; done) | rfl | simp [Region.wanted, yielded], fun w ⟨h0, h1⟩ => by unfold execOp; go_simp⟩) ⟨by go_simp, by go_simp⟩ ?_); (try simp only [Act.put, Act.eval, List.getElem_toArray, List.getElem_cons_zero, List.getElem_cons_succ, List.setIfInBounds_toArray, List.set_cons_zero, List.set_cons_succ, Array.getD_eq_getD_getElem?, List.getElem?_toArray, List.getElem?_cons_zero, List.getElem?_cons_succ, Option.getD_some]); (refine wpAnyH_take (i := 21) (v := .bool sv) rfl (by kernel_rfl) (by kernel_rfl) (by kernel_rfl) (fun _ _ _ h => h) (.inl ⟨by first | (simp [Region.wanted]; done) | rfl | simp [Region.wanted, yielded], fun w _ => by unfold execOp; go_simp⟩) ⟨by go_simp, by go_simp⟩ ?_); (try simp only [Act.put, Act.eval, List.getElem_toArray, List.getElem_cons_zero, List.getElem_cons_succ, List.setIfInBounds_toArray, List.set_cons_zero, List.set_cons_succ, Array.getD_eq_getD_getElem?, List.getElem?_toArray, List.getElem?_cons_zero, List.getElem?_cons_succ, Option.getD_some]); (refine wpAnyH_done (by kernel_rfl) ?_ _)
            rw [HSV.out]
            go_wp2
            go_ret
            exact ⟨by rw [HV2.out]; rfl, by repeat' (first | with_reducible exact Below.refl _ _ | with_reducible assumption | with_reducible refine Below.drew ?_ | with_reducible refine Below.drewN ?_ _ | with_reducible refine Below.alloc ?_ ?_ _ | with_reducible refine Below.setCell ?_ ?_ _ | with_reducible refine Below.setRow ?_ ?_ _ | with_reducible refine below_step (by assumption) ?_ ?_ | (show (_ : Nat) ≤ _; first | omega | (simp <;> omega)))⟩
          · have HN := Lib.hid (And.intro (vcells_next hW hH W8 H8 hx8 hy8 hfx hfy HCO.out hs1 hs2 hsn) (show ∀ t, t < 64 → (D.setIfInBounds (y * 8 + x) (.bool true))[t]? = some (.bool (snB f (q + 1) t)) from fun t ht => by
              rw [snB_next, hfx, hfy]
              simp only [Int.toNat_natCast]
              by_cases hte : t = y * 8 + x
              · subst hte
                rw [Array.getElem?_setIfInBounds_self_of_lt hDs2]
                simp
              · rw [Array.getElem?_setIfInBounds_ne (by omega), HDC.out t ht]
                have : (y * 8 + x == t) = false := by rw [beq_eq_false_iff_ne]; omega
                rw [this, Bool.or_false]))
            rw [hsn] at hDq
            clear hFR hs hs1 hs2 hsn hfx hfy
            obtain ⟨sv, hsv⟩ : ∃ sv, sv = false := ⟨_, rfl⟩
            rw [← hsv] at hDq
            have HSV := Lib.hid hsv
            clear hsv
            go_wp2
            (refine wp_region_held (S := fun w' => rowOf w' (g2) = R2 ∧ rowOf w' (wo.heap.size) = D) (by kernel_rfl) ?_); (simp only [World.drew_eq]); (refine wpAnyH_take (i := 0) rfl (by kernel_rfl) (by kernel_rfl) (by kernel_rfl) (fun _ _ _ h => h) (yieldsIf_move rfl rfl) ⟨by go_simp, by go_simp⟩ ?_); (try simp only [Act.put, Act.eval, List.getElem_toArray, List.getElem_cons_zero, List.getElem_cons_succ, List.setIfInBounds_toArray, List.set_cons_zero, List.set_cons_succ, Array.getD_eq_getD_getElem?, List.getElem?_toArray, List.getElem?_cons_zero, List.getElem?_cons_succ, Option.getD_some]); (refine wpAnyH_take (i := 1) rfl (by kernel_rfl) (by kernel_rfl) (by kernel_rfl) (fun _ _ _ h => h) (yieldsIf_move rfl rfl) ⟨by go_simp, by go_simp⟩ ?_); (try simp only [Act.put, Act.eval, List.getElem_toArray, List.getElem_cons_zero, List.getElem_cons_succ, List.setIfInBounds_toArray, List.set_cons_zero, List.set_cons_succ, Array.getD_eq_getD_getElem?, List.getElem?_toArray, List.getElem?_cons_zero, List.getElem?_cons_succ, Option.getD_some]); (refine wpAnyH_take (i := 2) rfl (by kernel_rfl) (by kernel_rfl) (by kernel_rfl) (fun _ _ _ h => h) (yieldsIf_move rfl rfl) ⟨by go_simp, by go_simp⟩ ?_); (try simp only [Act.put, Act.eval, List.getElem_toArray, List.getElem_cons_zero, List.getElem_cons_succ, List.setIfInBounds_toArray, List.set_cons_zero, List.set_cons_succ, Array.getD_eq_getD_getElem?, List.getElem?_toArray, List.getElem?_cons_zero, List.getElem?_cons_succ, Option.getD_some]); (refine wpAnyH_take (i := 3) (v := .pointer (some ⟨g2, q * 2, none⟩)) rfl (by kernel_rfl) (by kernel_rfl) (by kernel_rfl) (fun _ _ _ h => h) (.inl ⟨by first | (simp [Region.wanted]; done) | rfl | simp [Region.wanted, yielded], fun w _ => by unfold execOp; go_simp⟩) ⟨by go_simp, by go_simp⟩ ?_); (try simp only [Act.put, Act.eval, List.getElem_toArray, List.getElem_cons_zero, List.getElem_cons_succ, List.setIfInBounds_toArray, List.set_cons_zero, List.set_cons_succ, Array.getD_eq_getD_getElem?, List.getElem?_toArray, List.getElem?_cons_zero, List.getElem?_cons_succ, Option.getD_some]); (refine wpAnyH_take (i := 4) rfl (by kernel_rfl) (by kernel_rfl) (by kernel_rfl) (fun _ _ _ h => h) (yieldsIf_load (v := .agg #[.int .i8 (x : Int), .int .i8 (y : Int)]) rfl rfl rfl (fun w ⟨h0, h1⟩ => by go_simp)) ⟨by go_simp, by go_simp⟩ ?_); (try simp only [Act.put, Act.eval, List.getElem_toArray, List.getElem_cons_zero, List.getElem_cons_succ, List.setIfInBounds_toArray, List.set_cons_zero, List.set_cons_succ, Array.getD_eq_getD_getElem?, List.getElem?_toArray, List.getElem?_cons_zero, List.getElem?_cons_succ, Option.getD_some]); (refine wpAnyH_one (i := 5) (by kernel_rfl) rfl rfl ?_); (go_simp); (first | (go_at_call 59; refine (HFR.out _ (by go_simp) (by first | omega | (simp <;> omega))).mono ?_; rintro e wf ⟨rfl, hbf⟩; have r_hbf := keep_rowA hbf; have f_hbf := keep_frA hbf; have s_hbf := hbf.size; (try simp only [World.size_alloc, World.size_setCell, setRow_size, World.size_drew, size_drewNm] at r_hbf f_hbf s_hbf))); (refine ⟨⟨by go_simp, by go_simp⟩, ?_⟩); (try simp only [Act.put, Act.eval, List.getElem_toArray, List.getElem_cons_zero, List.getElem_cons_succ, List.setIfInBounds_toArray, List.set_cons_zero, List.set_cons_succ, Array.getD_eq_getD_getElem?, List.getElem?_toArray, List.getElem?_cons_zero, List.getElem?_cons_succ, Option.getD_some]); (refine wpAnyH_take (i := 6) (v := .bool false) rfl (by kernel_rfl) (by kernel_rfl) (by kernel_rfl) (fun _ _ _ h => h) (.inl ⟨by first | (simp [Region.wanted]; done) | rfl | simp [Region.wanted, yielded], fun w _ => by unfold execOp; go_simp⟩) ⟨by go_simp, by go_simp⟩ ?_); (try simp only [Act.put, Act.eval, List.getElem_toArray, List.getElem_cons_zero, List.getElem_cons_succ, List.setIfInBounds_toArray, List.set_cons_zero, List.set_cons_succ, Array.getD_eq_getD_getElem?, List.getElem?_toArray, List.getElem?_cons_zero, List.getElem?_cons_succ, Option.getD_some]); (refine wpAnyH_take (i := 7) (v := .bool false) rfl (by kernel_rfl) (by kernel_rfl) (by kernel_rfl) (fun _ _ _ h => h) (.inl ⟨by first | (simp [Region.wanted]; done) | rfl | simp [Region.wanted, yielded], fun w _ => by unfold execOp; go_simp⟩) ⟨by go_simp, by go_simp⟩ ?_); (try simp only [Act.put, Act.eval, List.getElem_toArray, List.getElem_cons_zero, List.getElem_cons_succ, List.setIfInBounds_toArray, List.set_cons_zero, List.set_cons_succ, Array.getD_eq_getD_getElem?, List.getElem?_toArray, List.getElem?_cons_zero, List.getElem?_cons_succ, Option.getD_some]); (refine wpAnyH_take (i := 8) (v := .slice (some ⟨g2, 0, none⟩) m ck) rfl (by kernel_rfl) (by kernel_rfl) (by kernel_rfl) (fun _ _ _ h => h) (.inl ⟨by first | (simp [Region.wanted]; done) | rfl | simp [Region.wanted, yielded], fun w _ => by unfold execOp; go_simp⟩) ⟨by go_simp, by go_simp⟩ ?_); (try simp only [Act.put, Act.eval, List.getElem_toArray, List.getElem_cons_zero, List.getElem_cons_succ, List.setIfInBounds_toArray, List.set_cons_zero, List.set_cons_succ, Array.getD_eq_getD_getElem?, List.getElem?_toArray, List.getElem?_cons_zero, List.getElem?_cons_succ, Option.getD_some]); (refine wpAnyH_take (i := 9) (v := .int .i64 (q : Int)) rfl (by kernel_rfl) (by kernel_rfl) (by kernel_rfl) (fun _ _ _ h => h) (.inl ⟨by first | (simp [Region.wanted]; done) | rfl | simp [Region.wanted, yielded], fun w _ => by unfold execOp; go_simp⟩) ⟨by go_simp, by go_simp⟩ ?_); (try simp only [Act.put, Act.eval, List.getElem_toArray, List.getElem_cons_zero, List.getElem_cons_succ, List.setIfInBounds_toArray, List.set_cons_zero, List.set_cons_succ, Array.getD_eq_getD_getElem?, List.getElem?_toArray, List.getElem?_cons_zero, List.getElem?_cons_succ, Option.getD_some]); (refine wpAnyH_take (i := 10) (v := .pointer (some ⟨g2, q * 2, none⟩)) rfl (by kernel_rfl) (by kernel_rfl) (by kernel_rfl) (fun _ _ _ h => h) (.inl ⟨by first | (simp [Region.wanted]; done) | rfl | simp [Region.wanted, yielded], fun w _ => by unfold execOp; go_simp⟩) ⟨by go_simp, by go_simp⟩ ?_); (try simp only [Act.put, Act.eval, List.getElem_toArray, List.getElem_cons_zero, List.getElem_cons_succ, List.setIfInBounds_toArray, List.set_cons_zero, List.set_cons_succ, Array.getD_eq_getD_getElem?, List.getElem?_toArray, List.getElem?_cons_zero, List.getElem?_cons_succ, Option.getD_some]); (refine wpAnyH_take (i := 11) (v := .pointer (some ⟨g2, q * 2 + 1, none⟩)) rfl (by kernel_rfl) (by kernel_rfl) (by kernel_rfl) (fun _ _ _ h => h) (.inl ⟨by first | (simp [Region.wanted]; done) | rfl | simp [Region.wanted, yielded], fun w _ => by unfold execOp; go_simp⟩) ⟨by go_simp, by go_simp⟩ ?_); (try simp only [Act.put, Act.eval, List.getElem_toArray, List.getElem_cons_zero, List.getElem_cons_succ, List.setIfInBounds_toArray, List.set_cons_zero, List.set_cons_succ, Array.getD_eq_getD_getElem?, List.getElem?_toArray, List.getElem?_cons_zero, List.getElem?_cons_succ, Option.getD_some]); (refine wpAnyH_take (i := 12) (v := .int .i8 (y : Int)) rfl (by kernel_rfl) (by kernel_rfl) (by kernel_rfl) (fun _ _ _ h => h) (.inl ⟨by first | (simp [Region.wanted]; done) | rfl | simp [Region.wanted, yielded], fun w ⟨h0, h1⟩ => by unfold execOp; go_simp⟩) ⟨by go_simp, by go_simp⟩ ?_); (try simp only [Act.put, Act.eval, List.getElem_toArray, List.getElem_cons_zero, List.getElem_cons_succ, List.setIfInBounds_toArray, List.set_cons_zero, List.set_cons_succ, Array.getD_eq_getD_getElem?, List.getElem?_toArray, List.getElem?_cons_zero, List.getElem?_cons_succ, Option.getD_some]); (refine wpAnyH_take (i := 13) (v := .slice (some ⟨g2, 0, none⟩) m ck) rfl (by kernel_rfl) (by kernel_rfl) (by kernel_rfl) (fun _ _ _ h => h) (.inl ⟨by first | (simp [Region.wanted]; done) | rfl | simp [Region.wanted, yielded], fun w _ => by unfold execOp; go_simp⟩) ⟨by go_simp, by go_simp⟩ ?_); (try simp only [Act.put, Act.eval, List.getElem_toArray, List.getElem_cons_zero, List.getElem_cons_succ, List.setIfInBounds_toArray, List.set_cons_zero, List.set_cons_succ, Array.getD_eq_getD_getElem?, List.getElem?_toArray, List.getElem?_cons_zero, List.getElem?_cons_succ, Option.getD_some]); (refine wpAnyH_take (i := 14) (v := .int .i64 (q : Int)) rfl (by kernel_rfl) (by kernel_rfl) (by kernel_rfl) (fun _ _ _ h => h) (.inl ⟨by first | (simp [Region.wanted]; done) | rfl | simp [Region.wanted, yielded], fun w _ => by unfold execOp; go_simp⟩) ⟨by go_simp, by go_simp⟩ ?_); (try simp only [Act.put, Act.eval, List.getElem_toArray, List.getElem_cons_zero, List.getElem_cons_succ, List.setIfInBounds_toArray, List.set_cons_zero, List.set_cons_succ, Array.getD_eq_getD_getElem?, List.getElem?_toArray, List.getElem?_cons_zero, List.getElem?_cons_succ, Option.getD_some]); (refine wpAnyH_take (i := 15) (v := .pointer (some ⟨g2, q * 2, none⟩)) rfl (by kernel_rfl) (by kernel_rfl) (by kernel_rfl) (fun _ _ _ h => h) (.inl ⟨by first | (simp [Region.wanted]; done) | rfl | simp [Region.wanted, yielded], fun w _ => by unfold execOp; go_simp⟩) ⟨by go_simp, by go_simp⟩ ?_); (try simp only [Act.put, Act.eval, List.getElem_toArray, List.getElem_cons_zero, List.getElem_cons_succ, List.setIfInBounds_toArray, List.set_cons_zero, List.set_cons_succ, Array.getD_eq_getD_getElem?, List.getElem?_toArray, List.getElem?_cons_zero, List.getElem?_cons_succ, Option.getD_some]); (refine wpAnyH_take (i := 16) (v := .pointer (some ⟨g2, q * 2, none⟩)) rfl (by kernel_rfl) (by kernel_rfl) (by kernel_rfl) (fun _ _ _ h => h) (.inl ⟨by first | (simp [Region.wanted]; done) | rfl | simp [Region.wanted, yielded], fun w _ => by unfold execOp; go_simp⟩) ⟨by go_simp, by go_simp⟩ ?_); (try simp only [Act.put, Act.eval, List.getElem_toArray, List.getElem_cons_zero, List.getElem_cons_succ, List.setIfInBounds_toArray, List.set_cons_zero, List.set_cons_succ, Array.getD_eq_getD_getElem?, List.getElem?_toArray, List.getElem?_cons_zero, List.getElem?_cons_succ, Option.getD_some]); (refine wpAnyH_take (i := 17) (v := .int .i8 (x : Int)) rfl (by kernel_rfl) (by kernel_rfl) (by kernel_rfl) (fun _ _ _ h => h) (.inl ⟨by first | (simp [Region.wanted]; done) | rfl | simp [Region.wanted, yielded], fun w ⟨h0, h1⟩ => by unfold execOp; go_simp⟩) ⟨by go_simp, by go_simp⟩ ?_); (try simp only [Act.put, Act.eval, List.getElem_toArray, List.getElem_cons_zero, List.getElem_cons_succ, List.setIfInBounds_toArray, List.set_cons_zero, List.set_cons_succ, Array.getD_eq_getD_getElem?, List.getElem?_toArray, List.getElem?_cons_zero, List.getElem?_cons_succ, Option.getD_some]); (refine wpAnyH_take (i := 18) (v := .pointer (some ⟨wo.heap.size, y * 8, none⟩)) rfl (by kernel_rfl) (by kernel_rfl) (by kernel_rfl) (fun _ _ _ h => h) (.inl ⟨by first | (simp [Region.wanted]; done) | rfl | simp [Region.wanted, yielded], fun w _ => by unfold execOp; go_simp⟩) ⟨by go_simp, by go_simp⟩ ?_); (try simp only [Act.put, Act.eval, List.getElem_toArray, List.getElem_cons_zero, List.getElem_cons_succ, List.setIfInBounds_toArray, List.set_cons_zero, List.set_cons_succ, Array.getD_eq_getD_getElem?, List.getElem?_toArray, List.getElem?_cons_zero, List.getElem?_cons_succ, Option.getD_some]); (refine wpAnyH_take (i := 19) (v := .pointer (some ⟨wo.heap.size, y * 8 + x, none⟩)) rfl (by kernel_rfl) (by kernel_rfl) (by kernel_rfl) (fun _ _ _ h => h) (.inl ⟨by first | (simp [Region.wanted]; done) | rfl | simp [Region.wanted, yielded], fun w _ => by unfold execOp; go_simp⟩) ⟨by go_simp, by go_simp⟩ ?_); (try simp only [Act.put, Act.eval, List.getElem_toArray, List.getElem_cons_zero, List.getElem_cons_succ, List.setIfInBounds_toArray, List.set_cons_zero, List.set_cons_succ, Array.getD_eq_getD_getElem?, List.getElem?_toArray, List.getElem?_cons_zero, List.getElem?_cons_succ, Option.getD_some]); (refine wpAnyH_take (i := 20) (v := .bool sv) rfl (by kernel_rfl) (by kernel_rfl) (by kernel_rfl) (fun _ _ _ h => h) (.inl ⟨by first | (simp [Region.wanted]; done) | rfl | simp [Region.wanted, yielded], fun w ⟨h0, h1⟩ => by unfold execOp; go_simp⟩) ⟨by go_simp, by go_simp⟩ ?_); (try simp only [Act.put, Act.eval, List.getElem_toArray, List.getElem_cons_zero, List.getElem_cons_succ, List.setIfInBounds_toArray, List.set_cons_zero, List.set_cons_succ, Array.getD_eq_getD_getElem?, List.getElem?_toArray, List.getElem?_cons_zero, List.getElem?_cons_succ, Option.getD_some]); (refine wpAnyH_take (i := 21) (v := .bool sv) rfl (by kernel_rfl) (by kernel_rfl) (by kernel_rfl) (fun _ _ _ h => h) (.inl ⟨by first | (simp [Region.wanted]; done) | rfl | simp [Region.wanted, yielded], fun w _ => by unfold execOp; go_simp⟩) ⟨by go_simp, by go_simp⟩ ?_); (try simp only [Act.put, Act.eval, List.getElem_toArray, List.getElem_cons_zero, List.getElem_cons_succ, List.setIfInBounds_toArray, List.set_cons_zero, List.set_cons_succ, Array.getD_eq_getD_getElem?, List.getElem?_toArray, List.getElem?_cons_zero, List.getElem?_cons_succ, Option.getD_some]); (refine wpAnyH_done (by kernel_rfl) ?_ _)
            rw [HSV.out]
            rw [HSV.out] at hDq
            go_wp2
            refine wp_region_still_tail 12 (by kernel_rfl) (by kernel_rfl) ?_
            simp only [List.take_succ_cons, List.take_zero, List.drop_succ_cons, List.drop_zero, World.drew_eq]
            repeat (refine wpStill_step (fun K hK => ?_); go_simp; refine hK _ ?_; clear hK K)
            try refine wpStill_nil ?_
            go_wp2
            go_roundw
            case rel => first | exact ⟨q + 1, D.setIfInBounds (y * 8 + x) (.bool true), by omega, by go_num, by repeat' (first | with_reducible exact Below.refl _ _ | with_reducible assumption | with_reducible refine Below.drew ?_ | with_reducible refine Below.drewN ?_ _ | with_reducible refine Below.alloc ?_ ?_ _ | with_reducible refine Below.setCell ?_ ?_ _ | with_reducible refine Below.setRow ?_ ?_ _ | with_reducible refine below_step (by assumption) ?_ ?_ | (show (_ : Nat) ≤ _; first | omega | (simp <;> omega))), by repeat' (first | with_reducible exact Below.refl _ _ | with_reducible assumption | with_reducible refine Below.drew ?_ | with_reducible refine Below.drewN ?_ _ | with_reducible refine Below.alloc ?_ ?_ _ | with_reducible refine Below.setCell ?_ ?_ _ | with_reducible refine Below.setRow ?_ ?_ _ | with_reducible refine below_step (by assumption) ?_ ?_ | (show (_ : Nat) ≤ _; first | omega | (simp <;> omega))), by first | omega | (simp <;> omega), by (go_simp <;> (intros; omega)), by (go_simp <;> (intros; omega)), by simpa using hDs, HN.out.2, HN.out.1⟩ | ((repeat (with_reducible apply Exists.intro)); refine And.intro ?_ ?_; rotate_left; (focus ((repeat' (with_reducible apply And.intro)) <;> rfl)); exact ⟨q + 1, D.setIfInBounds (y * 8 + x) (.bool true), by omega, by go_num, by repeat' (first | with_reducible exact Below.refl _ _ | with_reducible assumption | with_reducible refine Below.drew ?_ | with_reducible refine Below.drewN ?_ _ | with_reducible refine Below.alloc ?_ ?_ _ | with_reducible refine Below.setCell ?_ ?_ _ | with_reducible refine Below.setRow ?_ ?_ _ | with_reducible refine below_step (by assumption) ?_ ?_ | (show (_ : Nat) ≤ _; first | omega | (simp <;> omega))), by repeat' (first | with_reducible exact Below.refl _ _ | with_reducible assumption | with_reducible refine Below.drew ?_ | with_reducible refine Below.drewN ?_ _ | with_reducible refine Below.alloc ?_ ?_ _ | with_reducible refine Below.setCell ?_ ?_ _ | with_reducible refine Below.setRow ?_ ?_ _ | with_reducible refine below_step (by assumption) ?_ ?_ | (show (_ : Nat) ≤ _; first | omega | (simp <;> omega))), by first | omega | (simp <;> omega), by (go_simp <;> (intros; omega)), by (go_simp <;> (intros; omega)), by simpa using hDs, HN.out.2, HN.out.1⟩)
            case measure => simp [intOf] <;> omega
        · have hqe : q = m := by omega
          subst hqe
          have HNX2 := Lib.hid (HPA.out HCO.out)
          go_wp2
          go_roundw
          case rel => first | exact ⟨k + 1, by omega, by go_num, by repeat' (first | with_reducible exact Below.refl _ _ | with_reducible assumption | with_reducible refine Below.drew ?_ | with_reducible refine Below.drewN ?_ _ | with_reducible refine Below.alloc ?_ ?_ _ | with_reducible refine Below.setCell ?_ ?_ _ | with_reducible refine Below.setRow ?_ ?_ _ | with_reducible refine below_step (by assumption) ?_ ?_ | (show (_ : Nat) ≤ _; first | omega | (simp <;> omega))), HNX2.out⟩ | ((repeat (with_reducible apply Exists.intro)); refine And.intro ?_ ?_; rotate_left; (focus ((repeat' (with_reducible apply And.intro)) <;> rfl)); exact ⟨k + 1, by omega, by go_num, by repeat' (first | with_reducible exact Below.refl _ _ | with_reducible assumption | with_reducible refine Below.drew ?_ | with_reducible refine Below.drewN ?_ _ | with_reducible refine Below.alloc ?_ ?_ _ | with_reducible refine Below.setCell ?_ ?_ _ | with_reducible refine Below.setRow ?_ ?_ _ | with_reducible refine below_step (by assumption) ?_ ?_ | (show (_ : Nat) ≤ _; first | omega | (simp <;> omega))), HNX2.out⟩)
          case measure => simp [intOf] <;> omega
    · have hke : k = n := by omega
      subst hke
      have HV2 := Lib.hid (vm_yes HOK.out h6 HALL.out)
      go_wp2
      go_ret
      exact ⟨by rw [HV2.out]; rfl, by repeat' (first | with_reducible exact Below.refl _ _ | with_reducible assumption | with_reducible refine Below.drew ?_ | with_reducible refine Below.drewN ?_ _ | with_reducible refine Below.alloc ?_ ?_ _ | with_reducible refine Below.setCell ?_ ?_ _ | with_reducible refine Below.setRow ?_ ?_ _ | with_reducible refine below_step (by assumption) ?_ ?_ | (show (_ : Nat) ≤ _; first | omega | (simp <;> omega)))⟩
end Go.Proofs.Ytkdfkhjoijfcdaa
