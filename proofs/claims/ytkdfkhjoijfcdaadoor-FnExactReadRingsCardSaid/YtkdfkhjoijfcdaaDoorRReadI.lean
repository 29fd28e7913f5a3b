/- Rings read from a text: the program. -/
import Derived.Test.YtkdfkhjoijfcdaaDoorRq
import Derived.Test.YtkdfkhjoijfcdaaDoorRReadS
namespace Go.Proofs.YtkdfkhjoijfcdaaDoor
open Go.RowKit
set_option linter.unusedVariables false
set_option linter.unusedSimpArgs false
set_option maxRecDepth 100000
def sdB (c d : Nat → Int) : Bool := c 0 == d 0 && c 1 == d 1
theorem iok_yes {t : List UInt8} {W H : Nat} (h : rlB (iG t) = true) (h0 : rlC (iG t) 0 = W) (h1 : rlC (iG t) 1 = H) : IOk W H t := by
  unfold rlC at h0 h1
  rw [if_pos h] at h0 h1
  simp only [if_true, Nat.one_ne_zero, if_false] at h0 h1
  unfold rlB at h
  rw [Bool.and_eq_true, List.all_eq_true] at h
  refine ⟨by omega, fun row hr => ?_⟩
  have h2 := h.2 row hr
  unfold fitR at h2
  simp only [Bool.and_eq_true, decide_eq_true_eq] at h2
  omega
theorem iok_no {t : List UInt8} {W H : Nat} (W8 : W ≤ 8) (H8 : H ≤ 8) (H0 : 0 < H) (h : IOk W H t) : rlB (iG t) = true ∧ rlC (iG t) 0 = W ∧ rlC (iG t) 1 = H := by
  obtain ⟨h1, h2⟩ := h
  generalize iG t = G at *
  match G, h1 with
  | [], h1 => simp at h1; omega
  | a :: r, h1 =>
    have ha := h2 a (by simp)
    have e : rlB (a :: r) = true := by
      unfold rlB
      rw [Bool.and_eq_true, List.all_eq_true]
      refine ⟨decide_eq_true (by omega), fun row hr => ?_⟩
      unfold fitR
      have := h2 row hr
      simp only [Bool.and_eq_true, decide_eq_true_eq]
      exact ⟨by omega, show row.length = a.length by omega⟩
    refine ⟨e, ?_, ?_⟩
    · unfold rlC
      rw [if_pos e]
      simp only [if_true, List.headD_cons]
      omega
    · unfold rlC
      rw [if_pos e]
      simp only [if_true, Nat.one_ne_zero, if_false]
      omega
theorem gv_in {t : List UInt8} {W H y x : Nat} (h : IOk W H t) (hy : y < H) (hx : x < W) : ∃ row wd, (iG t)[y]? = some row ∧ row[x]? = some wd ∧ gv rwI (iG t) y x = rwI wd := by
  obtain ⟨h1, h2⟩ := h
  obtain ⟨row, hr⟩ : ∃ row, (iG t)[y]? = some row := ⟨_, List.getElem?_eq_getElem (by omega)⟩
  have h3 := h2 row (List.mem_of_getElem? hr)
  obtain ⟨wd, hw⟩ : ∃ wd, row[x]? = some wd := ⟨_, List.getElem?_eq_getElem (by omega)⟩
  exact ⟨row, wd, hr, hw, gv_word hr hw⟩
theorem gv_out {t : List UInt8} {W H y x : Nat} (h : IOk W H t) (hn : ¬ (y < H ∧ x < W)) : gv rwI (iG t) y x = -1 := by
  obtain ⟨h1, h2⟩ := h
  unfold gv
  split
  · rename_i row hr
    have h3 := h2 row (List.mem_of_getElem? hr)
    have h4 := (List.getElem?_eq_some_iff.1 hr).1
    split
    · rename_i wd hw
      have h5 := (List.getElem?_eq_some_iff.1 hw).1
      omega
    · rfl
  · rfl
theorem word_len {t : List UInt8} {row : List (List UInt8)} {wd : List UInt8} (hr : row ∈ iG t) (hw : wd ∈ row) : wd.length ≤ t.length := by
  unfold iG at hr
  obtain ⟨l, hl, rfl⟩ := List.mem_map.1 hr
  exact Nat.le_trans (seg_le hw) (Nat.le_trans (seg_le hl) (trim_len t))
theorem pfx_is (wd : List UInt8) : Lib.hasPrefix (tx wd).data.toList (tx [45]).data.toList = decide (wd.head? = some 45) := by
  show List.isPrefixOf [45] wd = _
  cases wd with
  | nil => rfl
  | cons a r =>
    by_cases h : a = 45
    · subst h; simp [List.isPrefixOf]
    · have h2 : ¬ (45 : UInt8) = a := fun e => h e.symm
      simp [List.isPrefixOf, h, h2]
theorem rwI_neg {wd : List UInt8} (h : wd.head? = some 45) : rwI wd = -1 := if_pos h
theorem rwI_num {wd : List UInt8} (h : ¬ wd.head? = some 45) : rwI wd = IntKind.i16.wrap (pi16 wd) := if_neg h
theorem wrap16_lo (n : Int) : -32768 ≤ IntKind.i16.wrap n ∧ IntKind.i16.wrap n ≤ 32767 := by
  simp only [IntKind.wrap, IntKind.bits, IntKind.signed]
  simp
  omega
theorem rwI_in (wd : List UInt8) : -32768 ≤ rwI wd ∧ rwI wd ≤ 32767 := by
  unfold rwI
  split
  · omega
  · exact wrap16_lo _
theorem gr_in (G : List (List (List UInt8))) (j : Nat) : -32768 ≤ gr rwI G j ∧ gr rwI G j ≤ 32767 := by
  unfold gr gv
  split
  · split
    · exact rwI_in _
    · omega
  · omega
theorem up_keep {e f : Nat → Int} {n : Nat} {u : Int} (h : ∀ j, j < n → e j = f j) : ∀ j, j < n → upI e n u j = f j := fun j hj => by
  unfold upI
  rw [if_neg (by omega)]
  exact h j hj
theorem up_next {e f : Nat → Int} {n : Nat} {u : Int} (h : ∀ j, j < n → e j = f j) (hu : u = f n) : ∀ j, j < n + 1 → upI e n u j = f j := fun j hj => by
  unfold upI
  split
  · rename_i hj2
    rw [hj2, hu]
  · exact h j (by omega)
set_option maxHeartbeats 1000000 in
theorem sdSides_any (c d : Nat → Int) (w : World) : Calls Tryd.prog 16 #[.agg (kc sk 266 c), .agg (kc sk 266 d)] w fun e w' => e = .returned (.bool (sdB c d)) ∧ Below w.heap.size w w' := by
  by_cases h0 : c 0 = d 0
  · have hb : (c 0 == d 0) = true := by simpa using h0
    have HV := Lib.hid (show sdB c d = (c 1 == d 1) by unfold sdB; rw [hb]; rfl)
    go_enter Tryd.func16, Tryd.ntmps16
    go_wp2
    go_ret
    exact ⟨by rw [HV.out]; rfl, by repeat' (first | with_reducible exact Below.refl _ _ | with_reducible assumption | with_reducible refine Below.drew ?_ | with_reducible refine Below.drewN ?_ _ | with_reducible refine Below.alloc ?_ ?_ _ | with_reducible refine Below.setCell ?_ ?_ _ | with_reducible refine Below.setRow ?_ ?_ _ | with_reducible refine below_step (by assumption) ?_ ?_ | (show (_ : Nat) ≤ _; first | omega | (simp <;> omega)))⟩
  · have hb : (c 0 == d 0) = false := by simpa using h0
    have HV := Lib.hid (show sdB c d = false by unfold sdB; rw [hb]; rfl)
    clear h0
    go_enter Tryd.func16, Tryd.ntmps16
    go_wp2
    go_ret
    exact ⟨by rw [HV.out]; rfl, by repeat' (first | with_reducible exact Below.refl _ _ | with_reducible assumption | with_reducible refine Below.drew ?_ | with_reducible refine Below.drewN ?_ _ | with_reducible refine Below.alloc ?_ ?_ _ | with_reducible refine Below.setCell ?_ ?_ _ | with_reducible refine Below.setRow ?_ ?_ _ | with_reducible refine below_step (by assumption) ?_ ?_ | (show (_ : Nat) ≤ _; first | omega | (simp <;> omega)))⟩
theorem pfx_any (wd : List UInt8) (w : World) : Calls Tryd.prog 18 #[.string (tx wd), .string (tx [45])] w fun e w' => e = .returned (.bool (decide (wd.head? = some 45))) ∧ w' = w := pfx_is wd ▸ Tryd.strings_HasPrefix (tx wd) (tx [45]) w
set_option maxHeartbeats 32000000 in
theorem iReadRings_any (c : Nat → Int) (hfc : FitSheet c) (t : List UInt8) (hl : t.length ≤ 1048576) (w : World) (h : RdW w) (ht : TabW w) :
    Calls Tryd.prog 6 #[.agg (kc sk 266 c), .string (tx t)] w fun e w' => e = .returned (.tuple #[.agg (kc rk 64 (rrF c t)), .int .i64 (rrC c t)]) ∧ Below w.heap.size w w' := by
  have HV0 := fun w => iValidSheet_any c hfc w
  have HR := Lib.hid h
  have HT := Lib.hid ht
  clear h ht
  rcases Bool.eq_false_or_eq_true (okS c) with h1 | h1
  case inr =>
    rw [h1] at HV0
    have HV := Lib.hid HV0
    rw [(rr_bad h1).1, (rr_bad h1).2]
    clear h1 HV0
    go_enter Tryd.func6, Tryd.ntmps6
    go_wp2_with (go_at_call 14; refine (HV.out _).mono ?_; rintro e w1 ⟨rfl, hb1⟩; have r1 := keep_rowA hb1; have f1 := keep_frA hb1; have s1 := hb1.size; (try simp only [World.size_alloc, World.size_setCell, setRow_size, World.size_drew, size_drewNm] at r1 f1 s1))
    refine bodyPost_ret (v := .tuple #[.agg (kc rk 64 fun _ => 0), .int .i64 1]) (res_ct rfl rfl (by (go_simp <;> (intros; omega))) rfl) rfl ⟨rfl, by repeat' (first | with_reducible exact Below.refl _ _ | with_reducible assumption | with_reducible refine Below.drew ?_ | with_reducible refine Below.drewN ?_ _ | with_reducible refine Below.alloc ?_ ?_ _ | with_reducible refine Below.setCell ?_ ?_ _ | with_reducible refine Below.setRow ?_ ?_ _ | with_reducible refine below_step (by assumption) ?_ ?_ | (show (_ : Nat) ≤ _; first | omega | (simp <;> omega)))⟩
  rw [h1] at HV0
  have HV := Lib.hid HV0
  clear HV0
  obtain ⟨W, H, hW, hH, W0, H0, W8, H8⟩ := okS_sides2 h1
  have HNO := Lib.hid (fun h => rr_no (t := t) h1 hW hH h)
  have HYES := Lib.hid (fun h => rr_yes (t := t) h1 hW hH h)
  have HRR := Lib.hid (rings_read hW hH W0 W8 H0 H8 t)
  clear h1
  have HRL0 := fun w h => readLines_any t hl w h
  have HSD0 := fun w => sdSides_any c (rlC (iG t)) w
  rcases Bool.eq_false_or_eq_true (rlB (iG t)) with h2 | h2
  case inr =>
    have HN := Lib.hid (HNO.out (fun hs => by
      rcases HRR.out with ⟨-, a, -⟩ | ⟨a, -⟩
      · rw [(iok_no W8 H8 H0 a).1] at h2; cases h2
      · exact a hs))
    rw [HN.out.1, HN.out.2]
    rw [h2] at HRL0
    have HRL := Lib.hid HRL0
    generalize rlC (iG t) = d at *
    clear HRL0 HSD0 h2 HRR HNO HYES
    go_enter Tryd.func6, Tryd.ntmps6
    go_wp2_with (first | (go_at_call 14; refine (HV.out _).mono ?_; rintro e w1 ⟨rfl, hb1⟩; have r1 := keep_rowA hb1; have f1 := keep_frA hb1; have s1 := hb1.size; (try simp only [World.size_alloc, World.size_setCell, setRow_size, World.size_drew, size_drewNm] at r1 f1 s1)) | (go_at_call 15; (with_reducible refine (HRL.out _ (HR.out.below (by repeat' (first | with_reducible exact Below.refl _ _ | with_reducible assumption | with_reducible refine Below.drew ?_ | with_reducible refine Below.drewN ?_ _ | with_reducible refine Below.alloc ?_ ?_ _ | with_reducible refine Below.setCell ?_ ?_ _ | with_reducible refine Below.setRow ?_ ?_ _ | with_reducible refine below_step (by assumption) ?_ ?_ | (show (_ : Nat) ≤ _; first | omega | (simp <;> omega)))))).mono ?_); rintro e wl ⟨ga, gn, gcap, rfl, -, hbl⟩; have r_hbl := keep_rowA hbl; have f_hbl := keep_frA hbl; have s_hbl := hbl.size; (try simp only [World.size_alloc, World.size_setCell, setRow_size, World.size_drew, size_drewNm] at r_hbl f_hbl s_hbl)))
    refine bodyPost_ret (v := .tuple #[.agg (kc rk 64 fun _ => 0), .int .i64 5]) (res_ct rfl rfl (by (go_simp <;> (intros; omega))) rfl) rfl ⟨rfl, by repeat' (first | with_reducible exact Below.refl _ _ | with_reducible assumption | with_reducible refine Below.drew ?_ | with_reducible refine Below.drewN ?_ _ | with_reducible refine Below.alloc ?_ ?_ _ | with_reducible refine Below.setCell ?_ ?_ _ | with_reducible refine Below.setRow ?_ ?_ _ | with_reducible refine below_step (by assumption) ?_ ?_ | (show (_ : Nat) ≤ _; first | omega | (simp <;> omega)))⟩
  rw [h2] at HRL0
  have HRL := Lib.hid HRL0
  clear HRL0
  rcases Bool.eq_false_or_eq_true (sdB c (rlC (iG t))) with h3 | h3
  case inr =>
    have HN := Lib.hid (HNO.out (fun hs => by
      rcases HRR.out with ⟨-, a, -⟩ | ⟨a, -⟩
      · obtain ⟨-, a1, a2⟩ := iok_no W8 H8 H0 a
        unfold sdB at h3
        rw [hW, hH, a1, a2] at h3
        simp at h3
      · exact a hs))
    rw [HN.out.1, HN.out.2]
    rw [h3] at HSD0
    have HSD := Lib.hid HSD0
    generalize rlC (iG t) = d at *
    clear HSD0 h2 h3 HRR HNO HYES
    go_enter Tryd.func6, Tryd.ntmps6
    go_wp2_with (first | (go_at_call 14; refine (HV.out _).mono ?_; rintro e w1 ⟨rfl, hb1⟩; have r1 := keep_rowA hb1; have f1 := keep_frA hb1; have s1 := hb1.size; (try simp only [World.size_alloc, World.size_setCell, setRow_size, World.size_drew, size_drewNm] at r1 f1 s1)) | (go_at_call 15; (with_reducible refine (HRL.out _ (HR.out.below (by repeat' (first | with_reducible exact Below.refl _ _ | with_reducible assumption | with_reducible refine Below.drew ?_ | with_reducible refine Below.drewN ?_ _ | with_reducible refine Below.alloc ?_ ?_ _ | with_reducible refine Below.setCell ?_ ?_ _ | with_reducible refine Below.setRow ?_ ?_ _ | with_reducible refine below_step (by assumption) ?_ ?_ | (show (_ : Nat) ≤ _; first | omega | (simp <;> omega)))))).mono ?_); rintro e wl ⟨ga, gn, gcap, rfl, -, hbl⟩; have r_hbl := keep_rowA hbl; have f_hbl := keep_frA hbl; have s_hbl := hbl.size; (try simp only [World.size_alloc, World.size_setCell, setRow_size, World.size_drew, size_drewNm] at r_hbl f_hbl s_hbl)) | (go_at_call 16; (with_reducible refine (HSD.out _).mono ?_); rintro e ws ⟨rfl, hbs⟩; have r_hbs := keep_rowA hbs; have f_hbs := keep_frA hbs; have s_hbs := hbs.size; (try simp only [World.size_alloc, World.size_setCell, setRow_size, World.size_drew, size_drewNm] at r_hbs f_hbs s_hbs)))
    refine bodyPost_ret (v := .tuple #[.agg (kc rk 64 fun _ => 0), .int .i64 5]) (res_ct rfl rfl (by (go_simp <;> (intros; omega))) rfl) rfl ⟨rfl, by repeat' (first | with_reducible exact Below.refl _ _ | with_reducible assumption | with_reducible refine Below.drew ?_ | with_reducible refine Below.drewN ?_ _ | with_reducible refine Below.alloc ?_ ?_ _ | with_reducible refine Below.setCell ?_ ?_ _ | with_reducible refine Below.setRow ?_ ?_ _ | with_reducible refine below_step (by assumption) ?_ ?_ | (show (_ : Nat) ≤ _; first | omega | (simp <;> omega)))⟩
  have hio : IOk W H t := by
    unfold sdB at h3
    rw [hW, hH] at h3
    simp only [Bool.and_eq_true, beq_iff_eq] at h3
    exact iok_yes h2 h3.1.symm h3.2.symm
  rw [h3] at HSD0
  have HSD := Lib.hid HSD0
  have HIO := Lib.hid hio
  have HGI := Lib.hid (gr_in (iG t))
  have HWL := Lib.hid (fun row wd (h1 : row ∈ iG t) (h2 : wd ∈ row) => Nat.le_trans (word_len h1 h2) hl)
  have HIN := Lib.hid (fun y x (hy : y < H) (hx : x < W) => gv_in hio hy hx)
  have HOUT := Lib.hid (fun y x (hn : ¬ (y < H ∧ x < W)) => gv_out hio hn)
  generalize rlC (iG t) = dS at *
  clear h2 h3 HSD0 hio
  generalize iG t = G at *
  have hGt : (IOk W H t ∧ ringB c (gr rwI G) = true ∧ ringTx (gr rwI G) W H = t ∧ rrC c t = 0 ∧ rrF c t = gr rwI G) ∨ (¬ (ringB c (gr rwI G) = true ∧ ringTx (gr rwI G) W H = t) ∧ rrC c t = 5 ∧ rrF c t = fun _ => 0) := by
    rcases HRR.out with ⟨a1, a2, -, a4, a5⟩ | ⟨a1, a2⟩
    · exact .inl ⟨a2, a4, a5, (HYES.out a1).1, (HYES.out a1).2⟩
    · exact .inr ⟨fun g => a2 ⟨HIO.out, g⟩, (HNO.out a1).1, (HNO.out a1).2⟩
  clear HRR HYES HNO HIO
  have HGT := Lib.hid hGt
  clear hGt
  go_enter Tryd.func6, Tryd.ntmps6
  go_wp2_with (first | (go_at_call 14; refine (HV.out _).mono ?_; rintro e w1 ⟨rfl, hb1⟩; have r1 := keep_rowA hb1; have f1 := keep_frA hb1; have s1 := hb1.size; (try simp only [World.size_alloc, World.size_setCell, setRow_size, World.size_drew, size_drewNm] at r1 f1 s1)) | (go_at_call 15; (with_reducible refine (HRL.out _ (HR.out.below (by repeat' (first | with_reducible exact Below.refl _ _ | with_reducible assumption | with_reducible refine Below.drew ?_ | with_reducible refine Below.drewN ?_ _ | with_reducible refine Below.alloc ?_ ?_ _ | with_reducible refine Below.setCell ?_ ?_ _ | with_reducible refine Below.setRow ?_ ?_ _ | with_reducible refine below_step (by assumption) ?_ ?_ | (show (_ : Nat) ≤ _; first | omega | (simp <;> omega)))))).mono ?_); rintro e wl ⟨ga, gn, gcap, rfl, hgv, hbl⟩; have r_hbl := keep_rowA hbl; have f_hbl := keep_frA hbl; have s_hbl := hbl.size; (try simp only [World.size_alloc, World.size_setCell, setRow_size, World.size_drew, size_drewNm] at r_hbl f_hbl s_hbl); have HGV := Lib.hid (hgv (by first | trivial | rfl)); clear hgv) | (go_at_call 16; (with_reducible refine (HSD.out _).mono ?_); rintro e ws ⟨rfl, hbs⟩; have r_hbs := keep_rowA hbs; have f_hbs := keep_frA hbs; have s_hbs := hbs.size; (try simp only [World.size_alloc, World.size_setCell, setRow_size, World.size_drew, size_drewNm] at r_hbs f_hbs s_hbs)))
  obtain ⟨g, cp, hv, hg, hgr⟩ := HGV.out
  simp only [Value.slice.injEq] at hv
  obtain ⟨rfl, rfl, rfl⟩ := hv
  have HGS := Lib.hid (HGV.out.below (w' := ws) (by repeat' (first | with_reducible exact Below.refl _ _ | with_reducible assumption | with_reducible refine Below.drew ?_ | with_reducible refine Below.drewN ?_ _ | with_reducible refine Below.alloc ?_ ?_ _ | with_reducible refine Below.setCell ?_ ?_ _ | with_reducible refine Below.setRow ?_ ?_ _ | with_reducible refine below_step (by assumption) ?_ ?_ | (show (_ : Nat) ≤ _; first | omega | (simp <;> omega)))) (Nat.le_refl _))
  have hbw : Below w.heap.size w ws := by repeat' (first | with_reducible exact Below.refl _ _ | with_reducible assumption | with_reducible refine Below.drew ?_ | with_reducible refine Below.drewN ?_ _ | with_reducible refine Below.alloc ?_ ?_ _ | with_reducible refine Below.setCell ?_ ?_ _ | with_reducible refine Below.setRow ?_ ?_ _ | with_reducible refine below_step (by assumption) ?_ ?_ | (show (_ : Nat) ≤ _; first | omega | (simp <;> omega)))
  have hwl : w.heap.size + 1 + 1 ≤ ws.heap.size := by omega
  clear hg hgr HGV
  go_loopw [33] (fun i wr => ∃ (y : Nat) (d : Nat → Int), y ≤ 8 ∧ i = .int .i64 y ∧ Below w.heap.size w wr ∧ Below ws.heap.size ws wr ∧ ws.heap.size + 1 ≤ wr.heap.size ∧ rowOf wr w.heap.size = kc sk 266 c ∧ rowOf wr (w.heap.size + 1) = kc rk 64 (fun _ => 0) ∧ frOf wr (w.heap.size + 1) = (0, 0) ∧ rowOf wr ws.heap.size = kc rk 64 d ∧ frOf wr ws.heap.size = (0, 0) ∧ ∀ j, j < y * 8 → d j = gr rwI G j) (fun i wr => 9 - (intOf i).toNat)
  case atStart => exact ⟨0, fun _ => 0, by omega, rfl, by repeat' (first | with_reducible exact Below.refl _ _ | with_reducible assumption | with_reducible refine Below.drew ?_ | with_reducible refine Below.drewN ?_ _ | with_reducible refine Below.alloc ?_ ?_ _ | with_reducible refine Below.setCell ?_ ?_ _ | with_reducible refine Below.setRow ?_ ?_ _ | with_reducible refine below_step (by assumption) ?_ ?_ | (show (_ : Nat) ≤ _; first | omega | (simp <;> omega))), by repeat' (first | with_reducible exact Below.refl _ _ | with_reducible assumption | with_reducible refine Below.drew ?_ | with_reducible refine Below.drewN ?_ _ | with_reducible refine Below.alloc ?_ ?_ _ | with_reducible refine Below.setCell ?_ ?_ _ | with_reducible refine Below.setRow ?_ ?_ _ | with_reducible refine below_step (by assumption) ?_ ?_ | (show (_ : Nat) ≤ _; first | omega | (simp <;> omega))), by simp, by (go_simp <;> (intros; omega)), by (go_simp <;> (intros; omega)), by (go_simp <;> (intros; omega)), by (go_simp <;> (intros; omega)), by (go_simp <;> (intros; omega)), fun j hj => by omega⟩
  case round =>
    obtain ⟨y, d, hy, rfl, hb, hbS, hsz, hrS, hrZ, hfZ, hrB, hfB, hd⟩ := hrel
    have HD := Lib.hid hd
    clear hd
    have hsz0 := hb.size
    by_cases hy8 : y < 8
    · have hyd : (y : Int) < 8 := by omega
      have hwy : IntKind.i64.wrap ((y : Int) + 1) = (y : Int) + 1 := IntWalk.i64_in _ (by omega)
      have hwy8 : IntKind.i8.wrap (y : Int) = (y : Int) := by simp only [IntKind.wrap, IntKind.bits, IntKind.signed]; simp; omega
      go_wp2
      go_loopw [36] (fun i wx => ∃ (x : Nat) (e : Nat → Int), x ≤ 8 ∧ i = .int .i64 x ∧ Below w.heap.size w wx ∧ Below ws.heap.size ws wx ∧ ws.heap.size + 1 ≤ wx.heap.size ∧ rowOf wx w.heap.size = kc sk 266 c ∧ rowOf wx (w.heap.size + 1) = kc rk 64 (fun _ => 0) ∧ frOf wx (w.heap.size + 1) = (0, 0) ∧ rowOf wx ws.heap.size = kc rk 64 e ∧ frOf wx ws.heap.size = (0, 0) ∧ ∀ j, j < y * 8 + x → e j = gr rwI G j) (fun i wx => 9 - (intOf i).toNat)
      case atStart => exact ⟨0, d, by omega, rfl, hb, hbS, hsz, hrS, hrZ, hfZ, hrB, hfB, fun j hj => HD.out j (by omega)⟩
      case round =>
        clear hb hbS hsz hrS hrZ hfZ hrB hfB hsz0
        obtain ⟨x, e, hx, rfl, hb, hbS, hsz, hrS, hrZ, hfZ, hrB, hfB, he⟩ := hrel
        have HE := Lib.hid he
        clear he
        have hsz0 := hb.size
        by_cases hx8 : x < 8
        · have hxd : (x : Int) < 8 := by omega
          have hwx : IntKind.i64.wrap ((x : Int) + 1) = (x : Int) + 1 := IntWalk.i64_in _ (by omega)
          have hwx8 : IntKind.i8.wrap (x : Int) = (x : Int) := by simp only [IntKind.wrap, IntKind.bits, IntKind.signed]; simp; omega
          have hgj : gr rwI G (y * 8 + x) = gv rwI G y x := gr_at _ _ hx8
          have hq := fun q w h1 h2 => has_any q c hfc (x : Int) (y : Int) (by omega) (by omega) w h1 h2
          by_cases hin : y < H ∧ x < W
          case neg =>
            have hP : isP c (x : Int) (y : Int) = false := by
              rw [Bool.eq_false_iff]
              intro h
              unfold isP at h
              rw [hW, hH, Bool.and_eq_true, inB_true, inB_true] at h
              omega
            have HU := Lib.hid (up_next (e := e) (f := gr rwI G) (u := -1) HE.out (by rw [hgj, HOUT.out y x hin]))
            rw [hP] at hq
            have HAS := Lib.hid hq
            clear hq hP hgj hin
            go_wp2_with (go_at_call 17; refine (HAS.out w.heap.size _ (by (go_simp <;> (intros; omega))) (by first | omega | (simp <;> omega))).mono ?_; rintro e w1 ⟨rfl, hb1⟩; have r1 := keep_rowA hb1; have f1 := keep_frA hb1; have s1 := hb1.size; (try simp only [World.size_alloc, World.size_setCell, setRow_size, World.size_drew, size_drewNm] at r1 f1 s1))
            go_roundw
            case rel => first | exact ⟨x + 1, upI e (y * 8 + x) (-1), by omega, by go_num, by repeat' (first | with_reducible exact Below.refl _ _ | with_reducible assumption | with_reducible refine Below.drew ?_ | with_reducible refine Below.drewN ?_ _ | with_reducible refine Below.alloc ?_ ?_ _ | with_reducible refine Below.setCell ?_ ?_ _ | with_reducible refine Below.setRow ?_ ?_ _ | with_reducible refine below_step (by assumption) ?_ ?_ | (show (_ : Nat) ≤ _; first | omega | (simp <;> omega))), by repeat' (first | with_reducible exact Below.refl _ _ | with_reducible assumption | with_reducible refine Below.drew ?_ | with_reducible refine Below.drewN ?_ _ | with_reducible refine Below.alloc ?_ ?_ _ | with_reducible refine Below.setCell ?_ ?_ _ | with_reducible refine Below.setRow ?_ ?_ _ | with_reducible refine below_step (by assumption) ?_ ?_ | (show (_ : Nat) ≤ _; first | omega | (simp <;> omega))), by first | omega | (simp <;> omega), by (go_simp <;> (intros; omega)), by (go_simp <;> (intros; omega)), by (go_simp <;> (intros; omega)), by (go_simp <;> (intros; omega)), by (go_simp <;> (intros; omega)), HU.out⟩ | ((repeat (with_reducible apply Exists.intro)); refine And.intro ?_ ?_; rotate_left; (focus ((repeat' (with_reducible apply And.intro)) <;> rfl)); exact ⟨x + 1, upI e (y * 8 + x) (-1), by omega, by go_num, by repeat' (first | with_reducible exact Below.refl _ _ | with_reducible assumption | with_reducible refine Below.drew ?_ | with_reducible refine Below.drewN ?_ _ | with_reducible refine Below.alloc ?_ ?_ _ | with_reducible refine Below.setCell ?_ ?_ _ | with_reducible refine Below.setRow ?_ ?_ _ | with_reducible refine below_step (by assumption) ?_ ?_ | (show (_ : Nat) ≤ _; first | omega | (simp <;> omega))), by repeat' (first | with_reducible exact Below.refl _ _ | with_reducible assumption | with_reducible refine Below.drew ?_ | with_reducible refine Below.drewN ?_ _ | with_reducible refine Below.alloc ?_ ?_ _ | with_reducible refine Below.setCell ?_ ?_ _ | with_reducible refine Below.setRow ?_ ?_ _ | with_reducible refine below_step (by assumption) ?_ ?_ | (show (_ : Nat) ≤ _; first | omega | (simp <;> omega))), by first | omega | (simp <;> omega), by (go_simp <;> (intros; omega)), by (go_simp <;> (intros; omega)), by (go_simp <;> (intros; omega)), by (go_simp <;> (intros; omega)), by (go_simp <;> (intros; omega)), HU.out⟩)
            case measure => simp [intOf]; omega
          have hP : isP c (x : Int) (y : Int) = true := by
            unfold isP
            rw [hW, hH, inB_true.2 (show (0 : Int) ≤ (x : Int) ∧ (x : Int) ≤ (W : Int) - 1 by omega), inB_true.2 (show (0 : Int) ≤ (y : Int) ∧ (y : Int) ≤ (H : Int) - 1 by omega)]; rfl
          rw [hP] at hq
          have HAS := Lib.hid hq
          obtain ⟨row, wd, hrow, hwd, hgv⟩ := HIN.out y x hin.1 hin.2
          have hyG : y < G.length := (List.getElem?_eq_some_iff.1 hrow).1
          have hxR : x < row.length := (List.getElem?_eq_some_iff.1 hwd).1
          have hwdl := HWL.out row wd (List.mem_of_getElem? hrow) (List.mem_of_getElem? hwd)
          obtain ⟨g', cp', hv, hgsz, hgr⟩ := HGS.out
          simp only [Value.slice.injEq, Option.some.injEq, Addr.mk.injEq] at hv
          obtain ⟨⟨rfl, -, -⟩, -, rfl⟩ := hv
          obtain ⟨b, cpb, hgb, hbsz, hbr⟩ := hgr y row hrow
          have hbx := hbr x wd hwd
          obtain ⟨Rg, hRg⟩ : ∃ Rg, rowOf ws g = Rg := ⟨_, rfl⟩
          obtain ⟨Rb, hRb⟩ : ∃ Rb, rowOf ws b = Rb := ⟨_, rfl⟩
          rw [hRg] at hgb
          rw [hRb] at hbx
          have hRgx : rowOf wr g = Rg := (keep_row hbS hgsz).trans hRg
          have hRbx : rowOf wr b = Rb := (keep_row hbS hbsz).trans hRb
          have hgw : g < wr.heap.size := by omega
          have hbw2 : b < wr.heap.size := by omega
          have hyG2 : (y : Int) < (G.length : Int) := by omega
          have hxR2 : (x : Int) < (row.length : Int) := by omega
          clear hgr hbr hrow hwd hq hP hin hRg hRb
          by_cases hp : wd.head? = some 45
          · have hpf := fun w => pfx_any wd w
            rw [decide_eq_true hp] at hpf
            have HPF := Lib.hid hpf
            have HU := Lib.hid (up_next (e := e) (f := gr rwI G) (u := -1) HE.out (by rw [hgj, hgv, rwI_neg hp]))
            clear hpf hp hgj hgv
            go_wp2_with (first | (go_at_call 17; refine (HAS.out w.heap.size _ (by (go_simp <;> (intros; omega))) (by first | omega | (simp <;> omega))).mono ?_; rintro e w1 ⟨rfl, hb1⟩; have r1 := keep_rowA hb1; have f1 := keep_frA hb1; have s1 := hb1.size; (try simp only [World.size_alloc, World.size_setCell, setRow_size, World.size_drew, size_drewNm] at r1 f1 s1)) | (go_at_call 18; (with_reducible refine (HPF.out _).mono ?_); rintro e wp ⟨rfl, rfl⟩))
            go_roundw
            case rel => first | exact ⟨x + 1, upI e (y * 8 + x) (-1), by omega, by go_num, by repeat' (first | with_reducible exact Below.refl _ _ | with_reducible assumption | with_reducible refine Below.drew ?_ | with_reducible refine Below.drewN ?_ _ | with_reducible refine Below.alloc ?_ ?_ _ | with_reducible refine Below.setCell ?_ ?_ _ | with_reducible refine Below.setRow ?_ ?_ _ | with_reducible refine below_step (by assumption) ?_ ?_ | (show (_ : Nat) ≤ _; first | omega | (simp <;> omega))), by repeat' (first | with_reducible exact Below.refl _ _ | with_reducible assumption | with_reducible refine Below.drew ?_ | with_reducible refine Below.drewN ?_ _ | with_reducible refine Below.alloc ?_ ?_ _ | with_reducible refine Below.setCell ?_ ?_ _ | with_reducible refine Below.setRow ?_ ?_ _ | with_reducible refine below_step (by assumption) ?_ ?_ | (show (_ : Nat) ≤ _; first | omega | (simp <;> omega))), by first | omega | (simp <;> omega), by (go_simp <;> (intros; omega)), by (go_simp <;> (intros; omega)), by (go_simp <;> (intros; omega)), by (go_simp <;> (intros; omega)), by (go_simp <;> (intros; omega)), HU.out⟩ | ((repeat (with_reducible apply Exists.intro)); refine And.intro ?_ ?_; rotate_left; (focus ((repeat' (with_reducible apply And.intro)) <;> rfl)); exact ⟨x + 1, upI e (y * 8 + x) (-1), by omega, by go_num, by repeat' (first | with_reducible exact Below.refl _ _ | with_reducible assumption | with_reducible refine Below.drew ?_ | with_reducible refine Below.drewN ?_ _ | with_reducible refine Below.alloc ?_ ?_ _ | with_reducible refine Below.setCell ?_ ?_ _ | with_reducible refine Below.setRow ?_ ?_ _ | with_reducible refine below_step (by assumption) ?_ ?_ | (show (_ : Nat) ≤ _; first | omega | (simp <;> omega))), by repeat' (first | with_reducible exact Below.refl _ _ | with_reducible assumption | with_reducible refine Below.drew ?_ | with_reducible refine Below.drewN ?_ _ | with_reducible refine Below.alloc ?_ ?_ _ | with_reducible refine Below.setCell ?_ ?_ _ | with_reducible refine Below.setRow ?_ ?_ _ | with_reducible refine below_step (by assumption) ?_ ?_ | (show (_ : Nat) ≤ _; first | omega | (simp <;> omega))), by first | omega | (simp <;> omega), by (go_simp <;> (intros; omega)), by (go_simp <;> (intros; omega)), by (go_simp <;> (intros; omega)), by (go_simp <;> (intros; omega)), by (go_simp <;> (intros; omega)), HU.out⟩)
            case measure => simp [intOf]; omega
          · have hpf := fun w => pfx_any wd w
            rw [decide_eq_false hp] at hpf
            have HPF := Lib.hid hpf
            have HU := Lib.hid (up_next (e := upI e (y * 8 + x) (-1)) (f := gr rwI G) (up_keep HE.out) (by rw [hgj, hgv, rwI_num hp]))
            have HRS := Lib.hid (fun w h => readSmall_any wd hwdl w h)
            generalize IntKind.i16.wrap (pi16 wd) = v at *
            clear hpf hp hgj hgv
            go_wp2_with (first | (go_at_call 17; refine (HAS.out w.heap.size _ (by (go_simp <;> (intros; omega))) (by first | omega | (simp <;> omega))).mono ?_; rintro e w1 ⟨rfl, hb1⟩; have r1 := keep_rowA hb1; have f1 := keep_frA hb1; have s1 := hb1.size; (try simp only [World.size_alloc, World.size_setCell, setRow_size, World.size_drew, size_drewNm] at r1 f1 s1)) | (go_at_call 18; (with_reducible refine (HPF.out _).mono ?_); rintro e wp ⟨rfl, rfl⟩))
            (refine wp_region_held (S := fun w' => rowOf w' (g) = Rg ∧ rowOf w' (b) = Rb) (by kernel_rfl) ?_); (simp only [World.drew_eq]); (refine wpAnyH_take (i := 0) rfl (by kernel_rfl) (by kernel_rfl) (by kernel_rfl) (fun _ _ _ h => h) (yieldsIf_move rfl rfl) ⟨by go_simp, by go_simp⟩ ?_); (try simp only [Act.put, Act.eval, List.getElem_toArray, List.getElem_cons_zero, List.getElem_cons_succ, List.setIfInBounds_toArray, List.set_cons_zero, List.set_cons_succ, Array.getD_eq_getD_getElem?, List.getElem?_toArray, List.getElem?_cons_zero, List.getElem?_cons_succ, Option.getD_some]); (refine wpAnyH_take (i := 1) rfl (by kernel_rfl) (by kernel_rfl) (by kernel_rfl) (fun _ _ _ h => h) (yieldsIf_move rfl rfl) ⟨by go_simp, by go_simp⟩ ?_); (try simp only [Act.put, Act.eval, List.getElem_toArray, List.getElem_cons_zero, List.getElem_cons_succ, List.setIfInBounds_toArray, List.set_cons_zero, List.set_cons_succ, Array.getD_eq_getD_getElem?, List.getElem?_toArray, List.getElem?_cons_zero, List.getElem?_cons_succ, Option.getD_some]); (refine wpAnyH_take (i := 2) rfl (by kernel_rfl) (by kernel_rfl) (by kernel_rfl) (fun _ _ _ h => h) (yieldsIf_move rfl rfl) ⟨by go_simp, by go_simp⟩ ?_); (try simp only [Act.put, Act.eval, List.getElem_toArray, List.getElem_cons_zero, List.getElem_cons_succ, List.setIfInBounds_toArray, List.set_cons_zero, List.set_cons_succ, Array.getD_eq_getD_getElem?, List.getElem?_toArray, List.getElem?_cons_zero, List.getElem?_cons_succ, Option.getD_some]); (refine wpAnyH_take (i := 3) rfl (by kernel_rfl) (by kernel_rfl) (by kernel_rfl) (fun _ _ _ h => h) (yieldsIf_move rfl rfl) ⟨by go_simp, by go_simp⟩ ?_); (try simp only [Act.put, Act.eval, List.getElem_toArray, List.getElem_cons_zero, List.getElem_cons_succ, List.setIfInBounds_toArray, List.set_cons_zero, List.set_cons_succ, Array.getD_eq_getD_getElem?, List.getElem?_toArray, List.getElem?_cons_zero, List.getElem?_cons_succ, Option.getD_some]); (refine wpAnyH_take (i := 6) rfl (by kernel_rfl) (by kernel_rfl) (by kernel_rfl) (fun _ _ _ h => h) (yieldsIf_move rfl rfl) ⟨by go_simp, by go_simp⟩ ?_); (try simp only [Act.put, Act.eval, List.getElem_toArray, List.getElem_cons_zero, List.getElem_cons_succ, List.setIfInBounds_toArray, List.set_cons_zero, List.set_cons_succ, Array.getD_eq_getD_getElem?, List.getElem?_toArray, List.getElem?_cons_zero, List.getElem?_cons_succ, Option.getD_some]); (refine wpAnyH_take (i := 4) (v := .pointer (some ⟨g, y, none⟩)) rfl (by kernel_rfl) (by kernel_rfl) (by kernel_rfl) (fun _ _ _ h => h) (.inl ⟨by first | (simp [Region.wanted]; done) | rfl | simp [Region.wanted, yielded], fun w _ => by unfold execOp; go_simp⟩) ⟨by go_simp, by go_simp⟩ ?_); (try simp only [Act.put, Act.eval, List.getElem_toArray, List.getElem_cons_zero, List.getElem_cons_succ, List.setIfInBounds_toArray, List.set_cons_zero, List.set_cons_succ, Array.getD_eq_getD_getElem?, List.getElem?_toArray, List.getElem?_cons_zero, List.getElem?_cons_succ, Option.getD_some]); (refine wpAnyH_take (i := 5) rfl (by kernel_rfl) (by kernel_rfl) (by kernel_rfl) (fun _ _ _ h => h) (yieldsIf_load (v := .slice (some ⟨b, 0, none⟩) row.length cpb) rfl rfl rfl (fun w ⟨h0, h1⟩ => by go_simp)) ⟨by go_simp, by go_simp⟩ ?_); (try simp only [Act.put, Act.eval, List.getElem_toArray, List.getElem_cons_zero, List.getElem_cons_succ, List.setIfInBounds_toArray, List.set_cons_zero, List.set_cons_succ, Array.getD_eq_getD_getElem?, List.getElem?_toArray, List.getElem?_cons_zero, List.getElem?_cons_succ, Option.getD_some]); (refine wpAnyH_take (i := 7) (v := .pointer (some ⟨b, x, none⟩)) rfl (by kernel_rfl) (by kernel_rfl) (by kernel_rfl) (fun _ _ _ h => h) (.inl ⟨by first | (simp [Region.wanted]; done) | rfl | simp [Region.wanted, yielded], fun w _ => by unfold execOp; go_simp⟩) ⟨by go_simp, by go_simp⟩ ?_); (try simp only [Act.put, Act.eval, List.getElem_toArray, List.getElem_cons_zero, List.getElem_cons_succ, List.setIfInBounds_toArray, List.set_cons_zero, List.set_cons_succ, Array.getD_eq_getD_getElem?, List.getElem?_toArray, List.getElem?_cons_zero, List.getElem?_cons_succ, Option.getD_some]); (refine wpAnyH_take (i := 8) rfl (by kernel_rfl) (by kernel_rfl) (by kernel_rfl) (fun _ _ _ h => h) (yieldsIf_load (v := .string (tx wd)) rfl rfl rfl (fun w ⟨h0, h1⟩ => by go_simp)) ⟨by go_simp, by go_simp⟩ ?_); (try simp only [Act.put, Act.eval, List.getElem_toArray, List.getElem_cons_zero, List.getElem_cons_succ, List.setIfInBounds_toArray, List.set_cons_zero, List.set_cons_succ, Array.getD_eq_getD_getElem?, List.getElem?_toArray, List.getElem?_cons_zero, List.getElem?_cons_succ, Option.getD_some]); (refine wpAnyH_take (i := 10) (v := .pointer (some ⟨ws.heap.size, y * 8, none⟩)) rfl (by kernel_rfl) (by kernel_rfl) (by kernel_rfl) (fun _ _ _ h => h) (.inl ⟨by first | (simp [Region.wanted]; done) | rfl | simp [Region.wanted, yielded], fun w _ => by unfold execOp; go_simp⟩) ⟨by go_simp, by go_simp⟩ ?_); (try simp only [Act.put, Act.eval, List.getElem_toArray, List.getElem_cons_zero, List.getElem_cons_succ, List.setIfInBounds_toArray, List.set_cons_zero, List.set_cons_succ, Array.getD_eq_getD_getElem?, List.getElem?_toArray, List.getElem?_cons_zero, List.getElem?_cons_succ, Option.getD_some])
            refine wpAnyH_one (i := 9) (by kernel_rfl) rfl rfl ?_
            refine oper_hid (fun RR hRR => ?_)
            go_simp
            go_at_call 19
            with_reducible refine (HRS.out _ (HR.out.below (by repeat' (first | with_reducible exact Below.refl _ _ | with_reducible assumption | with_reducible refine Below.drew ?_ | with_reducible refine Below.drewN ?_ _ | with_reducible refine Below.alloc ?_ ?_ _ | with_reducible refine Below.setCell ?_ ?_ _ | with_reducible refine Below.setRow ?_ ?_ _ | with_reducible refine below_step (by assumption) ?_ ?_ | (show (_ : Nat) ≤ _; first | omega | (simp <;> omega)))))).mono ?_
            rintro e2 wq ⟨rfl, hbq⟩
            have r_hbq := keep_rowA hbq; have f_hbq := keep_frA hbq; have s_hbq := hbq.size; (try simp only [World.size_alloc, World.size_setCell, setRow_size, World.size_drew, size_drewNm] at r_hbq f_hbq s_hbq)
            refine hRR _ _ ⟨⟨by go_simp, by go_simp⟩, ?_⟩
            clear hRR RR
            try simp only [Act.put, Act.eval, List.getElem_toArray, List.getElem_cons_zero, List.getElem_cons_succ, List.setIfInBounds_toArray, List.set_cons_zero, List.set_cons_succ, Array.getD_eq_getD_getElem?, List.getElem?_toArray, List.getElem?_cons_zero, List.getElem?_cons_succ, Option.getD_some]
            refine wpAnyH_one (i := 11) (by kernel_rfl) rfl rfl ?_
            refine oper_hid (fun RR hRR => ?_)
            go_simp
            refine hRR _ _ ⟨⟨by go_simp, by go_simp⟩, ?_⟩
            clear hRR RR
            try simp only [Act.put, Act.eval, List.getElem_toArray, List.getElem_cons_zero, List.getElem_cons_succ, List.setIfInBounds_toArray, List.set_cons_zero, List.set_cons_succ, Array.getD_eq_getD_getElem?, List.getElem?_toArray, List.getElem?_cons_zero, List.getElem?_cons_succ, Option.getD_some]
            refine wpAnyH_one (i := 12) (by kernel_rfl) rfl rfl ?_
            refine oper_hid (fun RR hRR => ?_)
            go_simp
            refine hRR _ _ ⟨⟨by go_simp, by go_simp⟩, ?_⟩
            clear hRR RR
            try simp only [Act.put, Act.eval, List.getElem_toArray, List.getElem_cons_zero, List.getElem_cons_succ, List.setIfInBounds_toArray, List.set_cons_zero, List.set_cons_succ, Array.getD_eq_getD_getElem?, List.getElem?_toArray, List.getElem?_cons_zero, List.getElem?_cons_succ, Option.getD_some]
            refine wpAnyH_done (by kernel_rfl) ?_ _
            go_wp2
            go_roundw
            case rel => first | exact ⟨x + 1, upI (upI e (y * 8 + x) (-1)) (y * 8 + x) v, by omega, by go_num, by repeat' (first | with_reducible exact Below.refl _ _ | with_reducible assumption | with_reducible refine Below.drew ?_ | with_reducible refine Below.drewN ?_ _ | with_reducible refine Below.alloc ?_ ?_ _ | with_reducible refine Below.setCell ?_ ?_ _ | with_reducible refine Below.setRow ?_ ?_ _ | with_reducible refine below_step (by assumption) ?_ ?_ | (show (_ : Nat) ≤ _; first | omega | (simp <;> omega))), by repeat' (first | with_reducible exact Below.refl _ _ | with_reducible assumption | with_reducible refine Below.drew ?_ | with_reducible refine Below.drewN ?_ _ | with_reducible refine Below.alloc ?_ ?_ _ | with_reducible refine Below.setCell ?_ ?_ _ | with_reducible refine Below.setRow ?_ ?_ _ | with_reducible refine below_step (by assumption) ?_ ?_ | (show (_ : Nat) ≤ _; first | omega | (simp <;> omega))), by first | omega | (simp <;> omega), by (go_simp <;> (intros; omega)), by (go_simp <;> (intros; omega)), by (go_simp <;> (intros; omega)), by (go_simp <;> (intros; omega)), by (go_simp <;> (intros; omega)), HU.out⟩ | ((repeat (with_reducible apply Exists.intro)); refine And.intro ?_ ?_; rotate_left; (focus ((repeat' (with_reducible apply And.intro)) <;> rfl)); exact ⟨x + 1, upI (upI e (y * 8 + x) (-1)) (y * 8 + x) v, by omega, by go_num, by repeat' (first | with_reducible exact Below.refl _ _ | with_reducible assumption | with_reducible refine Below.drew ?_ | with_reducible refine Below.drewN ?_ _ | with_reducible refine Below.alloc ?_ ?_ _ | with_reducible refine Below.setCell ?_ ?_ _ | with_reducible refine Below.setRow ?_ ?_ _ | with_reducible refine below_step (by assumption) ?_ ?_ | (show (_ : Nat) ≤ _; first | omega | (simp <;> omega))), by repeat' (first | with_reducible exact Below.refl _ _ | with_reducible assumption | with_reducible refine Below.drew ?_ | with_reducible refine Below.drewN ?_ _ | with_reducible refine Below.alloc ?_ ?_ _ | with_reducible refine Below.setCell ?_ ?_ _ | with_reducible refine Below.setRow ?_ ?_ _ | with_reducible refine below_step (by assumption) ?_ ?_ | (show (_ : Nat) ≤ _; first | omega | (simp <;> omega))), by first | omega | (simp <;> omega), by (go_simp <;> (intros; omega)), by (go_simp <;> (intros; omega)), by (go_simp <;> (intros; omega)), by (go_simp <;> (intros; omega)), by (go_simp <;> (intros; omega)), HU.out⟩)
            case measure => simp [intOf]; omega
        · have hxe : x = 8 := by omega
          subst hxe
          go_wp2
          go_roundw
          case rel => first | exact ⟨y + 1, e, by omega, by go_num, by repeat' (first | with_reducible exact Below.refl _ _ | with_reducible assumption | with_reducible refine Below.drew ?_ | with_reducible refine Below.drewN ?_ _ | with_reducible refine Below.alloc ?_ ?_ _ | with_reducible refine Below.setCell ?_ ?_ _ | with_reducible refine Below.setRow ?_ ?_ _ | with_reducible refine below_step (by assumption) ?_ ?_ | (show (_ : Nat) ≤ _; first | omega | (simp <;> omega))), by repeat' (first | with_reducible exact Below.refl _ _ | with_reducible assumption | with_reducible refine Below.drew ?_ | with_reducible refine Below.drewN ?_ _ | with_reducible refine Below.alloc ?_ ?_ _ | with_reducible refine Below.setCell ?_ ?_ _ | with_reducible refine Below.setRow ?_ ?_ _ | with_reducible refine below_step (by assumption) ?_ ?_ | (show (_ : Nat) ≤ _; first | omega | (simp <;> omega))), by omega, by (go_simp <;> (intros; omega)), by (go_simp <;> (intros; omega)), by (go_simp <;> (intros; omega)), by (go_simp <;> (intros; omega)), by (go_simp <;> (intros; omega)), fun j hj => HE.out j (by omega)⟩ | ((repeat (with_reducible apply Exists.intro)); refine And.intro ?_ ?_; rotate_left; (focus ((repeat' (with_reducible apply And.intro)) <;> rfl)); exact ⟨y + 1, e, by omega, by go_num, by repeat' (first | with_reducible exact Below.refl _ _ | with_reducible assumption | with_reducible refine Below.drew ?_ | with_reducible refine Below.drewN ?_ _ | with_reducible refine Below.alloc ?_ ?_ _ | with_reducible refine Below.setCell ?_ ?_ _ | with_reducible refine Below.setRow ?_ ?_ _ | with_reducible refine below_step (by assumption) ?_ ?_ | (show (_ : Nat) ≤ _; first | omega | (simp <;> omega))), by repeat' (first | with_reducible exact Below.refl _ _ | with_reducible assumption | with_reducible refine Below.drew ?_ | with_reducible refine Below.drewN ?_ _ | with_reducible refine Below.alloc ?_ ?_ _ | with_reducible refine Below.setCell ?_ ?_ _ | with_reducible refine Below.setRow ?_ ?_ _ | with_reducible refine below_step (by assumption) ?_ ?_ | (show (_ : Nat) ≤ _; first | omega | (simp <;> omega))), by omega, by (go_simp <;> (intros; omega)), by (go_simp <;> (intros; omega)), by (go_simp <;> (intros; omega)), by (go_simp <;> (intros; omega)), by (go_simp <;> (intros; omega)), fun j hj => HE.out j (by omega)⟩)
          case measure => simp [intOf]; omega
    · have hye : y = 8 := by omega
      subst hye
      have hde : kc rk 64 d = kc rk 64 (gr rwI G) := kc_ext (fun j hj => HD.out j (by omega))
      rw [hde] at hrB
      clear HD hde
      have HA0 := fun q w2 h1 h2 => areRings_any q c (gr rwI G) hfc (fun j _ => HGI.out j) w2 h1 h2
      rcases HGT.out with ⟨-, hb2, htx, hc0, hf0⟩ | ⟨hno, hc0, hf0⟩
      · rw [hb2] at HA0
        have HTX0 := fun q w2 h1 h2 h3 => ringsText_any q c (gr rwI G) W H hW hH W8 H8 W0 (ringB_ok hb2) w2 h1 h2 h3
        rw [htx] at HTX0
        have HA := Lib.hid HA0
        have HTX := Lib.hid HTX0
        have HCF := Lib.hid (And.intro hc0 hf0)
        clear HA0 HTX0 hb2 htx hc0 hf0 HGT
        generalize gr rwI G = r at *
        go_wp2_with (first | (go_at_call 20; refine (HA.out w.heap.size _ (by (go_simp <;> (intros; omega))) (by first | omega | (simp <;> omega))).mono ?_; rintro e w1 ⟨rfl, hb1⟩; have r1 := keep_rowA hb1; have f1 := keep_frA hb1; have s1 := hb1.size; (try simp only [World.size_alloc, World.size_setCell, setRow_size, World.size_drew, size_drewNm] at r1 f1 s1)) | (go_at_call 21; refine (HTX.out w.heap.size _ (by (go_simp <;> (intros; omega))) (by first | omega | (simp <;> omega)) (tabW_below HT.out (by repeat' (first | with_reducible exact Below.refl _ _ | with_reducible assumption | with_reducible refine Below.drew ?_ | with_reducible refine Below.drewN ?_ _ | with_reducible refine Below.alloc ?_ ?_ _ | with_reducible refine Below.setCell ?_ ?_ _ | with_reducible refine Below.setRow ?_ ?_ _ | with_reducible refine below_step (by assumption) ?_ ?_ | (show (_ : Nat) ≤ _; first | omega | (simp <;> omega)))))).mono ?_; rintro e w1 ⟨rfl, hb1⟩; have r1 := keep_rowA hb1; have f1 := keep_frA hb1; have s1 := hb1.size; (try simp only [World.size_alloc, World.size_setCell, setRow_size, World.size_drew, size_drewNm] at r1 f1 s1)))
        refine bodyPost_ret (v := .tuple #[.agg (kc rk 64 r), .int .i64 0]) (res_ct rfl rfl (by (go_simp <;> (intros; omega))) rfl) rfl ⟨by rw [HCF.out.1, HCF.out.2], by repeat' (first | with_reducible exact Below.refl _ _ | with_reducible assumption | with_reducible refine Below.drew ?_ | with_reducible refine Below.drewN ?_ _ | with_reducible refine Below.alloc ?_ ?_ _ | with_reducible refine Below.setCell ?_ ?_ _ | with_reducible refine Below.setRow ?_ ?_ _ | with_reducible refine below_step (by assumption) ?_ ?_ | (show (_ : Nat) ≤ _; first | omega | (simp <;> omega)))⟩
      · have HCF := Lib.hid (And.intro hc0 hf0)
        clear hc0 hf0 HGT
        rcases Bool.eq_false_or_eq_true (ringB c (gr rwI G)) with hb2 | hb2
        · rw [hb2] at HA0
          have HTX0 := fun q w2 h1 h2 h3 => ringsText_any q c (gr rwI G) W H hW hH W8 H8 W0 (ringB_ok hb2) w2 h1 h2 h3
          have hne0 : ringTx (gr rwI G) W H ≠ t := fun e => hno ⟨hb2, e⟩
          have HA := Lib.hid HA0
          have HTX := Lib.hid HTX0
          clear HA0 HTX0 hb2 hno
          generalize ringTx (gr rwI G) W H = u at *
          generalize gr rwI G = r at *
          have hne : (u == t) = false := by rw [beq_eq_false_iff_ne]; exact hne0
          have hne2 : ¬ u = t := hne0
          clear hne0
          go_wp2_with (first | (go_at_call 20; refine (HA.out w.heap.size _ (by (go_simp <;> (intros; omega))) (by first | omega | (simp <;> omega))).mono ?_; rintro e w1 ⟨rfl, hb1⟩; have r1 := keep_rowA hb1; have f1 := keep_frA hb1; have s1 := hb1.size; (try simp only [World.size_alloc, World.size_setCell, setRow_size, World.size_drew, size_drewNm] at r1 f1 s1)) | (go_at_call 21; refine (HTX.out w.heap.size _ (by (go_simp <;> (intros; omega))) (by first | omega | (simp <;> omega)) (tabW_below HT.out (by repeat' (first | with_reducible exact Below.refl _ _ | with_reducible assumption | with_reducible refine Below.drew ?_ | with_reducible refine Below.drewN ?_ _ | with_reducible refine Below.alloc ?_ ?_ _ | with_reducible refine Below.setCell ?_ ?_ _ | with_reducible refine Below.setRow ?_ ?_ _ | with_reducible refine below_step (by assumption) ?_ ?_ | (show (_ : Nat) ≤ _; first | omega | (simp <;> omega)))))).mono ?_; rintro e w1 ⟨rfl, hb1⟩; have r1 := keep_rowA hb1; have f1 := keep_frA hb1; have s1 := hb1.size; (try simp only [World.size_alloc, World.size_setCell, setRow_size, World.size_drew, size_drewNm] at r1 f1 s1)))
          refine bodyPost_ret (v := .tuple #[.agg (kc rk 64 fun _ => 0), .int .i64 5]) (res_ct rfl rfl (by (go_simp <;> (intros; omega))) rfl) rfl ⟨by rw [HCF.out.1, HCF.out.2], by repeat' (first | with_reducible exact Below.refl _ _ | with_reducible assumption | with_reducible refine Below.drew ?_ | with_reducible refine Below.drewN ?_ _ | with_reducible refine Below.alloc ?_ ?_ _ | with_reducible refine Below.setCell ?_ ?_ _ | with_reducible refine Below.setRow ?_ ?_ _ | with_reducible refine below_step (by assumption) ?_ ?_ | (show (_ : Nat) ≤ _; first | omega | (simp <;> omega)))⟩
        · rw [hb2] at HA0
          have HA := Lib.hid HA0
          clear HA0 hb2 hno
          generalize gr rwI G = r at *
          go_wp2_with (go_at_call 20; refine (HA.out w.heap.size _ (by (go_simp <;> (intros; omega))) (by first | omega | (simp <;> omega))).mono ?_; rintro e w1 ⟨rfl, hb1⟩; have r1 := keep_rowA hb1; have f1 := keep_frA hb1; have s1 := hb1.size; (try simp only [World.size_alloc, World.size_setCell, setRow_size, World.size_drew, size_drewNm] at r1 f1 s1))
          refine bodyPost_ret (v := .tuple #[.agg (kc rk 64 fun _ => 0), .int .i64 5]) (res_ct rfl rfl (by (go_simp <;> (intros; omega))) rfl) rfl ⟨by rw [HCF.out.1, HCF.out.2], by repeat' (first | with_reducible exact Below.refl _ _ | with_reducible assumption | with_reducible refine Below.drew ?_ | with_reducible refine Below.drewN ?_ _ | with_reducible refine Below.alloc ?_ ?_ _ | with_reducible refine Below.setCell ?_ ?_ _ | with_reducible refine Below.setRow ?_ ?_ _ | with_reducible refine below_step (by assumption) ?_ ?_ | (show (_ : Nat) ≤ _; first | omega | (simp <;> omega)))⟩
end Go.Proofs.YtkdfkhjoijfcdaaDoor
