/- Several folds pressed: the program; one fold pressed: both. -/
import Derived.Test.YtbnhhjjhjjmmjaaPressI
import Derived.Test.YtbnhhjjhjjmmjaaPressAS
import Derived.Test.YtbnhhjjhjjmmjaaSheetOkI
namespace Go.Proofs.Ytbnhhjjhjjmmjaa
open Go.RowKit
set_option linter.unusedVariables false
set_option linter.unusedSimpArgs false
set_option maxRecDepth 100000
theorem badFold_any (p : Nat) (c : Nat → Int) (hfc : FitSheet c) (ho : okS c = true) (f : Fd) (hf : FdIn f) (w : World) (hr : rowOf w p = kc sk 266 c) (hp : p < w.heap.size) :
    Calls Try.prog 65 #[.agg #[.int .i8 f.a, .bool f.d, .int .i8 f.p], .pointer (some ⟨p, 0, none⟩)] w fun e w' => e = .returned (.bool (!(foldB c f.a f.d f.p))) ∧ Below w.heap.size w w' := by
  have hv := fun w => iValidFold_any c hfc f.a f.d f.p hf.1 hf.2 w
  rw [ho, Bool.true_and] at hv
  have HV := Lib.hid hv
  obtain ⟨fa, fd, fp⟩ := f
  simp only at HV ⊢
  clear hv ho hf
  go_enter Try.func65, Try.ntmps65
  go_wp2_with ((go_at_call 66; refine (HV.out _).mono ?_; rintro e w1 ⟨rfl, hb1⟩; have r1 := keep_rowA hb1; have f1 := keep_frA hb1; have s1 := hb1.size; (try simp only [World.size_alloc, World.size_setCell, setRow_size, World.size_drew, size_drewNm] at r1 f1 s1)))
  go_ret
  exact ⟨rfl, by repeat' (first | with_reducible exact Below.refl _ _ | with_reducible assumption | with_reducible refine Below.drew ?_ | with_reducible refine Below.drewN ?_ _ | with_reducible refine Below.alloc ?_ ?_ _ | with_reducible refine Below.setCell ?_ ?_ _ | with_reducible refine Below.setRow ?_ ?_ _ | with_reducible refine below_step (by assumption) ?_ ?_ | (show (_ : Nat) ≤ _; first | omega | (simp <;> omega)))⟩
set_option maxHeartbeats 4000000 in
theorem badFrom_any (p : Nat) (c : Nat → Int) (hfc : FitSheet c) (ho : okS c = true) (v : Value) (n : Nat) (F : Nat → Fd) (hn : n ≤ 1048576) (hF : ∀ k, k < n → FdIn (F k)) (w : World) (hr : rowOf w p = kc sk 266 c) (hp : p < w.heap.size) (h : SlV 3 w v n (fdV F)) :
    Calls Try.prog 102 #[v, .func (.func 65) #[] #[.pointer (some ⟨p, 0, none⟩)]] w fun e w' => ∃ k : Int, e = .returned (.int .i64 k) ∧ decide (0 ≤ k) = (!(foldsB c F n)) ∧ -1 ≤ k ∧ k ≤ n ∧ Below w.heap.size w w' := by
  obtain ⟨a, cap, rfl⟩ := h.len
  have HH := Lib.hid h
  have HF := Lib.hid hF
  clear h hF
  go_enter Try.func102, Try.ntmps102
  go_wp2
  go_loopw [8] (fun i wr => ∃ k : Nat, k ≤ n ∧ i = .int .i64 k ∧ Below w.heap.size w wr ∧ FoldsTo c F k) (fun i wr => n + 1 - (intOf i).toNat)
  case atStart => exact ⟨0, by omega, rfl, by repeat' (first | with_reducible exact Below.refl _ _ | with_reducible assumption | with_reducible refine Below.drew ?_ | with_reducible refine Below.drewN ?_ _ | with_reducible refine Below.alloc ?_ ?_ _ | with_reducible refine Below.setCell ?_ ?_ _ | with_reducible refine Below.setRow ?_ ?_ _ | with_reducible refine below_step (by assumption) ?_ ?_ | (show (_ : Nat) ≤ _; first | omega | (simp <;> omega))), fun i h1 => by omega⟩
  case round =>
    obtain ⟨k, hk1, rfl, hb, hin⟩ := hrel
    have hsz := hb.size
    have HIN := Lib.hid hin
    clear hin
    have hrp := keep_row hb hp
    rw [hr] at hrp
    have hpw : p < wr.heap.size := Nat.lt_of_lt_of_le hp hsz
    by_cases hlt : k < n
    · obtain ⟨g, o, cap', hv, hg, hRs, hcells⟩ := HH.out.pos (by omega)
      simp only [Value.slice.injEq] at hv
      obtain ⟨rfl, -, rfl⟩ := hv
      have hr1 := keep_row hb hg
      have hw1 : g < wr.heap.size := Nat.lt_of_lt_of_le hg hb.size
      have he : rowExt (rowOf w g) (o + k * 3) 3 = #[.int .i8 (F k).a, .bool (F k).d, .int .i8 (F k).p] := ext_fold (by omega) (hcells k hlt)
      obtain ⟨R, hR⟩ : ∃ R, rowOf w g = R := ⟨_, rfl⟩
      rw [hR] at hr1 he hRs
      have hOS := fun w2 hr hp => badFold_any p c hfc ho (F k) (HF.out k hlt) w2 hr hp
      have hm1 : ¬ n ≤ k := by omega
      have hm2 : ¬ ((k : Int) < 0) := by omega
      clear hcells hR
      rcases Bool.eq_false_or_eq_true (foldB c (F k).a (F k).d (F k).p) with hs | hs
      · have HN := Lib.hid (folds_next HIN.out hs)
        rw [hs] at hOS
        have HOS := Lib.hid hOS
        clear hOS hs
        generalize (F k).a = fa at *
        generalize (F k).d = fd at *
        generalize (F k).p = fp at *
        go_wp2_with ((go_at_call 65; refine (HOS.out _ (by (go_simp <;> (intros; omega))) (by first | omega | (simp <;> omega))).mono ?_; rintro e w1 ⟨rfl, hb1⟩; have r1 := keep_rowA hb1; have f1 := keep_frA hb1; have s1 := hb1.size; (try simp only [World.size_alloc, World.size_setCell, setRow_size, World.size_drew, size_drewNm] at r1 f1 s1)))
        go_roundw
        case rel => first | exact ⟨k + 1, by omega, by go_num, by repeat' (first | with_reducible exact Below.refl _ _ | with_reducible assumption | with_reducible refine Below.drew ?_ | with_reducible refine Below.drewN ?_ _ | with_reducible refine Below.alloc ?_ ?_ _ | with_reducible refine Below.setCell ?_ ?_ _ | with_reducible refine Below.setRow ?_ ?_ _ | with_reducible refine below_step (by assumption) ?_ ?_ | (show (_ : Nat) ≤ _; first | omega | (simp <;> omega))), HN.out⟩ | ((repeat (with_reducible apply Exists.intro)); refine And.intro ?_ ?_; rotate_left; focus ((repeat' (with_reducible apply And.intro)) <;> rfl); exact ⟨k + 1, by omega, by go_num, by repeat' (first | with_reducible exact Below.refl _ _ | with_reducible assumption | with_reducible refine Below.drew ?_ | with_reducible refine Below.drewN ?_ _ | with_reducible refine Below.alloc ?_ ?_ _ | with_reducible refine Below.setCell ?_ ?_ _ | with_reducible refine Below.setRow ?_ ?_ _ | with_reducible refine below_step (by assumption) ?_ ?_ | (show (_ : Nat) ≤ _; first | omega | (simp <;> omega))), HN.out⟩)
        case measure => simp [intOf] <;> omega
      · have HN := Lib.hid (foldsB_no hlt hs)
        rw [hs] at hOS
        have HOS := Lib.hid hOS
        clear hOS hs
        generalize (F k).a = fa at *
        generalize (F k).d = fd at *
        generalize (F k).p = fp at *
        go_wp2_with ((go_at_call 65; refine (HOS.out _ (by (go_simp <;> (intros; omega))) (by first | omega | (simp <;> omega))).mono ?_; rintro e w1 ⟨rfl, hb1⟩; have r1 := keep_rowA hb1; have f1 := keep_frA hb1; have s1 := hb1.size; (try simp only [World.size_alloc, World.size_setCell, setRow_size, World.size_drew, size_drewNm] at r1 f1 s1)))
        go_ret
        exact ⟨k, rfl, by rw [HN.out]; exact decide_eq_true (by omega), by omega, by omega, by repeat' (first | with_reducible exact Below.refl _ _ | with_reducible assumption | with_reducible refine Below.drew ?_ | with_reducible refine Below.drewN ?_ _ | with_reducible refine Below.alloc ?_ ?_ _ | with_reducible refine Below.setCell ?_ ?_ _ | with_reducible refine Below.setRow ?_ ?_ _ | with_reducible refine below_step (by assumption) ?_ ?_ | (show (_ : Nat) ≤ _; first | omega | (simp <;> omega)))⟩
    · have hke : k = n := by omega
      subst hke
      have HV := Lib.hid (foldsB_yes HIN.out)
      go_wp2
      go_ret
      exact ⟨-1, rfl, by rw [HV.out]; rfl, by omega, by omega, by repeat' (first | with_reducible exact Below.refl _ _ | with_reducible assumption | with_reducible refine Below.drew ?_ | with_reducible refine Below.drewN ?_ _ | with_reducible refine Below.alloc ?_ ?_ _ | with_reducible refine Below.setCell ?_ ?_ _ | with_reducible refine Below.setRow ?_ ?_ _ | with_reducible refine below_step (by assumption) ?_ ?_ | (show (_ : Nat) ≤ _; first | omega | (simp <;> omega)))⟩
theorem badAny_any (p : Nat) (c : Nat → Int) (hfc : FitSheet c) (ho : okS c = true) (v : Value) (n : Nat) (F : Nat → Fd) (hn : n ≤ 1048576) (hF : ∀ k, k < n → FdIn (F k)) (w : World) (hr : rowOf w p = kc sk 266 c) (hp : p < w.heap.size) (h : SlV 3 w v n (fdV F)) :
    Calls Try.prog 64 #[v, .func (.func 65) #[] #[.pointer (some ⟨p, 0, none⟩)]] w fun e w' => e = .returned (.bool (!(foldsB c F n))) ∧ Below w.heap.size w w' := by
  have HX := Lib.hid (badFrom_any p c hfc ho v n F hn hF w hr hp h)
  generalize hb : (!(foldsB c F n)) = b at *
  have HB := Lib.hid hb
  clear hb h
  go_enter Try.func64, Try.ntmps64
  go_wp2_with (go_at_call 102; refine HX.out.mono ?_; rintro e w1 ⟨k, rfl, hk, hk1, hk2, hb1⟩)
  go_ret
  exact ⟨by rw [← hk]; rfl, by repeat' (first | with_reducible exact Below.refl _ _ | with_reducible assumption | with_reducible refine Below.drew ?_ | with_reducible refine Below.drewN ?_ _ | with_reducible refine Below.alloc ?_ ?_ _ | with_reducible refine Below.setCell ?_ ?_ _ | with_reducible refine Below.setRow ?_ ?_ _ | with_reducible refine below_step (by assumption) ?_ ?_ | (show (_ : Nat) ≤ _; first | omega | (simp <;> omega)))⟩
set_option maxHeartbeats 16000000 in
theorem iPressAll_any (c : Nat → Int) (hfc : FitSheet c) (v : Value) (n : Nat) (F : Nat → Fd) (hn : n ≤ 1048576) (hF : ∀ k, k < n → FdIn (F k)) (w : World) (h : SlV 3 w v n (fdV F)) :
    Calls Try.prog 29 #[.agg (kc sk 266 c), v] w fun e w' => e = .returned (paV c F n) ∧ Below w.heap.size w w' := by
  have hO := fun w => iValidSheet_any c hfc w
  have HH := Lib.hid h
  obtain ⟨a0, cap0, rfl⟩ := h.len
  clear h
  rcases Bool.eq_false_or_eq_true (okS c) with ho | ho
  case inr =>
    rw [paV_no 1 (by omega) (by unfold paCode; rw [ho]; rfl)]
    rw [ho] at hO
    have HO := Lib.hid hO
    clear hO ho hF
    go_enter Try.func29, Try.ntmps29
    go_wp2_with ((go_at_call 57; refine (HO.out _).mono ?_; rintro e w1 ⟨rfl, hb1⟩; have r1 := keep_rowA hb1; have f1 := keep_frA hb1; have s1 := hb1.size; (try simp only [World.size_alloc, World.size_setCell, setRow_size, World.size_drew, size_drewNm] at r1 f1 s1)))
    exact bodyPost_ret (v := .tuple #[.agg (kc sk 266 fun _ => 0), .int .i64 0, .int .i64 1]) (res_ctt rfl rfl (by (go_simp <;> (intros; omega))) rfl rfl) rfl ⟨rfl, by repeat' (first | with_reducible exact Below.refl _ _ | with_reducible assumption | with_reducible refine Below.drew ?_ | with_reducible refine Below.drewN ?_ _ | with_reducible refine Below.alloc ?_ ?_ _ | with_reducible refine Below.setCell ?_ ?_ _ | with_reducible refine Below.setRow ?_ ?_ _ | with_reducible refine below_step (by assumption) ?_ ?_ | (show (_ : Nat) ≤ _; first | omega | (simp <;> omega)))⟩
  have hoo := ho
  rw [ho] at hO
  have HO := Lib.hid hO
  clear hO
  by_cases hb : 30 < n
  · rw [paV_no 3 (by omega) (by unfold paCode; rw [ho, if_pos rfl, if_pos hb])]
    clear ho hoo hF
    have hbi : (30 : Int) < (n : Int) := by omega
    go_enter Try.func29, Try.ntmps29
    go_wp2_with ((go_at_call 57; refine (HO.out _).mono ?_; rintro e w1 ⟨rfl, hb1⟩; have r1 := keep_rowA hb1; have f1 := keep_frA hb1; have s1 := hb1.size; (try simp only [World.size_alloc, World.size_setCell, setRow_size, World.size_drew, size_drewNm] at r1 f1 s1)))
    exact bodyPost_ret (v := .tuple #[.agg (kc sk 266 fun _ => 0), .int .i64 0, .int .i64 3]) (res_ctt rfl rfl (by (go_simp <;> (intros; omega))) rfl rfl) rfl ⟨rfl, by repeat' (first | with_reducible exact Below.refl _ _ | with_reducible assumption | with_reducible refine Below.drew ?_ | with_reducible refine Below.drewN ?_ _ | with_reducible refine Below.alloc ?_ ?_ _ | with_reducible refine Below.setCell ?_ ?_ _ | with_reducible refine Below.setRow ?_ ?_ _ | with_reducible refine below_step (by assumption) ?_ ?_ | (show (_ : Nat) ≤ _; first | omega | (simp <;> omega)))⟩
  have hbi : ¬ ((30 : Int) < (n : Int)) := by omega
  obtain ⟨W, H, hW, hH, W0, H0, W8, H8⟩ := okS_sides ho
  have HG0 := Lib.hid (goodP_start hfc ho hW hH)
  have hC : paCode c F n = if foldsB c F n = true then 0 else 2 := by unfold paCode; rw [ho, if_pos rfl, if_neg hb]
  have hBA := fun w2 hr hp h => badAny_any w.heap.size c hfc ho (.slice a0 n cap0) n F hn hF w2 hr hp h
  have HF := Lib.hid hF
  have HWH := Lib.hid (And.intro hW hH)
  clear ho hoo hF hW hH
  rcases Bool.eq_false_or_eq_true (foldsB c F n) with hfo | hfo
  case inr =>
    rw [paV_no 2 (by omega) (by rw [hC, hfo]; rfl)]
    rw [hfo] at hBA
    have HBA := Lib.hid hBA
    clear hBA hfo hC
    go_enter Try.func29, Try.ntmps29
    go_wp2_with (first | (go_at_call 57; refine (HO.out _).mono ?_; rintro e w1 ⟨rfl, hb1⟩; have r1 := keep_rowA hb1; have f1 := keep_frA hb1; have s1 := hb1.size; (try simp only [World.size_alloc, World.size_setCell, setRow_size, World.size_drew, size_drewNm] at r1 f1 s1)) | (go_at_call 64; refine (HBA.out _ (by (go_simp <;> (intros; omega))) (by first | omega | (simp <;> omega)) (HH.out.below (by repeat' (first | with_reducible exact Below.refl _ _ | with_reducible assumption | with_reducible refine Below.drew ?_ | with_reducible refine Below.drewN ?_ _ | with_reducible refine Below.alloc ?_ ?_ _ | with_reducible refine Below.setCell ?_ ?_ _ | with_reducible refine Below.setRow ?_ ?_ _ | with_reducible refine below_step (by assumption) ?_ ?_ | (show (_ : Nat) ≤ _; first | omega | (simp <;> omega)))) (Nat.le_refl _))).mono ?_; rintro e w1 ⟨rfl, hb1⟩; have r1 := keep_rowA hb1; have f1 := keep_frA hb1; have s1 := hb1.size; (try simp only [World.size_alloc, World.size_setCell, setRow_size, World.size_drew, size_drewNm] at r1 f1 s1)))
    exact bodyPost_ret (v := .tuple #[.agg (kc sk 266 fun _ => 0), .int .i64 0, .int .i64 2]) (res_ctt rfl rfl (by (go_simp <;> (intros; omega))) rfl rfl) rfl ⟨rfl, by repeat' (first | with_reducible exact Below.refl _ _ | with_reducible assumption | with_reducible refine Below.drew ?_ | with_reducible refine Below.drewN ?_ _ | with_reducible refine Below.alloc ?_ ?_ _ | with_reducible refine Below.setCell ?_ ?_ _ | with_reducible refine Below.setRow ?_ ?_ _ | with_reducible refine below_step (by assumption) ?_ ?_ | (show (_ : Nat) ≤ _; first | omega | (simp <;> omega)))⟩
  have HT := Lib.hid (foldsB_to hfo)
  have HV := Lib.hid (paV_yes (c := c) (F := F) (n := n) (by rw [hC, hfo]; rfl) HWH.out.1 HWH.out.2)
  have HIN := Lib.hid (fun i (hi : i < n) => foldB_in HWH.out.1 HWH.out.2 W8 H8 (HT.out i hi))
  have HGA := Lib.hid (fun i (hi : i ≤ n) => goodPA (F := F) W0 W8 H8 HG0.out i (fun j hj => (HIN.out j (by omega)).2))
  rw [hfo] at hBA
  have HBA := Lib.hid hBA
  clear hBA hfo hC
  go_enter Try.func29, Try.ntmps29
  go_wp2_with (first | (go_at_call 57; refine (HO.out _).mono ?_; rintro e w1 ⟨rfl, hb1⟩; have r1 := keep_rowA hb1; have f1 := keep_frA hb1; have s1 := hb1.size; (try simp only [World.size_alloc, World.size_setCell, setRow_size, World.size_drew, size_drewNm] at r1 f1 s1)) | (go_at_call 64; refine (HBA.out _ (by (go_simp <;> (intros; omega))) (by first | omega | (simp <;> omega)) (HH.out.below (by repeat' (first | with_reducible exact Below.refl _ _ | with_reducible assumption | with_reducible refine Below.drew ?_ | with_reducible refine Below.drewN ?_ _ | with_reducible refine Below.alloc ?_ ?_ _ | with_reducible refine Below.setCell ?_ ?_ _ | with_reducible refine Below.setRow ?_ ?_ _ | with_reducible refine below_step (by assumption) ?_ ?_ | (show (_ : Nat) ≤ _; first | omega | (simp <;> omega)))) (Nat.le_refl _))).mono ?_; rintro e w1 ⟨rfl, hb1⟩; have r1 := keep_rowA hb1; have f1 := keep_frA hb1; have s1 := hb1.size; (try simp only [World.size_alloc, World.size_setCell, setRow_size, World.size_drew, size_drewNm] at r1 f1 s1)))
  have HR1 := Lib.hid (show rowOf w1 w.heap.size = kc sk 266 c ∧ frOf w1 w.heap.size = (0, 0) ∧ rowOf w1 (w.heap.size + 1) = kc sk 266 (fun _ => 0) ∧ frOf w1 (w.heap.size + 1) = (0, 0) from ⟨by (go_simp <;> (intros; omega)), by (go_simp <;> (intros; omega)), by (go_simp <;> (intros; omega)), by (go_simp <;> (intros; omega))⟩)
  have HB1 := Lib.hid (show Below w.heap.size w w1 from by repeat' (first | with_reducible exact Below.refl _ _ | with_reducible assumption | with_reducible refine Below.drew ?_ | with_reducible refine Below.drewN ?_ _ | with_reducible refine Below.alloc ?_ ?_ _ | with_reducible refine Below.setCell ?_ ?_ _ | with_reducible refine Below.setRow ?_ ?_ _ | with_reducible refine below_step (by assumption) ?_ ?_ | (show (_ : Nat) ≤ _; first | omega | (simp <;> omega))))
  have hsz1 : w.heap.size + 2 ≤ w1.heap.size := by first | omega | (have := hb1.size; simp at this; omega)
  go_loopw [27, 7] (fun v s wx => ∃ i : Nat, i ≤ n ∧ v = .int .i64 i ∧ s = .int .i64 (prA F W H c i).m ∧ OneP w.heap.size w.heap.size w1 wx (prA F W H c i)) (fun v s wx => n - (intOf v).toNat)
  case atStart => exact ⟨0, by omega, rfl, rfl, HR1.out.1, HR1.out.2.1, Nat.le_refl _, fun b h1 h2 => ⟨rfl, rfl⟩, Below.refl _ _⟩
  case round =>
    obtain ⟨i, hi, rfl, rfl, hone⟩ := hrel
    have HON := Lib.hid hone
    obtain ⟨hrp, hfp, hszx, hoth, hbx⟩ := hone
    have hrq := (hoth (w.heap.size + 1) (by omega) (by omega)).1.trans HR1.out.2.2.1
    have hfq := (hoth (w.heap.size + 1) (by omega) (by omega)).2.trans HR1.out.2.2.2
    have HBX := Lib.hid (Below.trans HB1.out hbx)
    have hg0 := HGA.out i hi
    have ⟨m1, m2⟩ := hg0.m0
    clear hoth hbx
    by_cases hli : i < n
    · obtain ⟨g, o, cap', hv, hg, hRs, hcells⟩ := HH.out.pos (by omega)
      simp only [Value.slice.injEq] at hv
      obtain ⟨rfl, -, rfl⟩ := hv
      have hr1 := keep_row HBX.out hg
      have hw1 : g < wr.heap.size := by omega
      have he : rowExt (rowOf w g) (o + i * 3) 3 = #[.int .i8 (F i).a, .bool (F i).d, .int .i8 (F i).p] := ext_fold (by omega) (hcells i hli)
      obtain ⟨R, hR⟩ : ∃ R, rowOf w g = R := ⟨_, rfl⟩
      rw [hR] at hr1 he hRs
      obtain ⟨ia, ip⟩ := HIN.out i hli
      have hnx := prA_next F W H c i
      have hgn := goodPF (a := (F i).a) (d := (F i).d) ip W0 W8 H8 (show GoodP W H (i * 192000) ⟨(prA F W H c i).c, (prA F W H c i).m⟩ from hg0)
      have hPR := fun w2 hr hp hfp => press_any w.heap.size w.heap.size (Nat.le_refl _) (prA F W H c i).c W H W0 H0 W8 H8 ⟨hg0.fc, hg0.w0, hg0.h0, hg0.dy, hg0.wt, Int.le_refl _, Int.le_refl _⟩ (F i).a (F i).d (F i).p ia ip w2 hr hp hfp
      have ⟨n1, n2⟩ := hgn.m0
      have hm1 : ¬ n ≤ i := by omega
      have hm2 : ¬ ((i : Int) < 0) := by omega
      have hps : w.heap.size < wr.heap.size := by omega
      generalize prF (prA F W H c i).c (F i).a (F i).d (F i).p W H = S at *
      generalize prA F W H c i = T at *
      obtain ⟨tc, tm⟩ := T
      simp only at hrp m1 m2 hnx hPR ⊢
      have hws := wrap_sum (a := tm) (b := S.m) (by omega)
      have HPR := Lib.hid hPR
      have HNX := Lib.hid hnx
      clear hPR hnx hg0 hgn hcells hR ia ip m2 n2
      generalize (F i).a = fa at *
      generalize (F i).d = fd at *
      generalize (F i).p = fp at *
      go_wp2_with (go_at_call 67; refine (HPR.out _ (by (go_simp <;> (intros; omega))) (by first | omega | (simp <;> omega)) (by (go_simp <;> (intros; omega)))).mono ?_; rintro e w2 ⟨rfl, ho1⟩; have HO1 := Lib.hid (oneP_transS (oneP_below HON.out hps (by omega) (by repeat' (first | with_reducible exact Below.refl _ _ | with_reducible assumption | with_reducible refine Below.drew ?_ | with_reducible refine Below.drewN ?_ _ | with_reducible refine Below.alloc ?_ ?_ _ | with_reducible refine Below.setCell ?_ ?_ _ | with_reducible refine Below.setRow ?_ ?_ _ | with_reducible refine below_step (by assumption) ?_ ?_ | (show (_ : Nat) ≤ _; first | omega | (simp <;> omega))))) ho1); clear ho1)
      go_roundw
      case rel => first | exact ⟨i + 1, by omega, by go_num, by rw [HNX.out], by rw [HNX.out]; exact oneP_congrS HO1.out rfl⟩ | ((repeat (with_reducible apply Exists.intro)); refine And.intro ?_ ?_; rotate_left; focus ((repeat' (with_reducible apply And.intro)) <;> rfl); exact ⟨i + 1, by omega, by go_num, by rw [HNX.out], by rw [HNX.out]; exact oneP_congrS HO1.out rfl⟩)
      case measure => simp [intOf]; omega
    · have hie : i = n := by omega
      subst hie
      generalize prA F W H c i = T at *
      obtain ⟨tc, tm⟩ := T
      simp only at hrp m1 m2 ⊢
      have hps : w.heap.size + 1 < wr.heap.size := by omega
      have HBF := Lib.hid (show Below w.heap.size w wr from HBX.out)
      clear hg0
      go_wp2
      exact bodyPost_ret (v := .tuple #[.agg (kc sk 266 tc), .int .i64 tm, .int .i64 0]) (res_ctt rfl rfl (by (go_simp <;> (intros; omega))) rfl rfl) rfl ⟨by rw [HV.out], by have := HBF.out; repeat' (first | with_reducible exact Below.refl _ _ | with_reducible assumption | with_reducible refine Below.drew ?_ | with_reducible refine Below.drewN ?_ _ | with_reducible refine Below.alloc ?_ ?_ _ | with_reducible refine Below.setCell ?_ ?_ _ | with_reducible refine Below.setRow ?_ ?_ _ | with_reducible refine below_step (by assumption) ?_ ?_ | (show (_ : Nat) ≤ _; first | omega | (simp <;> omega)))⟩
set_option maxHeartbeats 2000000 in
theorem iPressOnce_any (c : Nat → Int) (hfc : FitSheet c) (f : Fd) (hf : FdIn f) (w : World) :
    Calls Try.prog 17 #[.agg (kc sk 266 c), .agg #[.int .i8 f.a, .bool f.d, .int .i8 f.p]] w fun e w' => e = .returned (paV c (fun _ => f) 1) ∧ Below w.heap.size w w' := by
  obtain ⟨e, m, z, E⟩ := paV_is c (fun _ => f) 1
  have HI := Lib.hid (fun v w h => E ▸ iPressAll_any c hfc v 1 (fun _ => f) (by omega) (fun _ _ => hf) w h)
  rw [E]
  clear E hf
  have HSL := Lib.hid (fun (w2 : World) (g : Nat) (h : rowOf w2 g = #[.int .i8 f.a, .bool f.d, .int .i8 f.p]) (hg : g < w2.heap.size) => show SlV 3 w2 (.slice (some ⟨g, 0, none⟩) 1 1) 1 (fdV (fun _ => f)) from .inr ⟨_, 1, rfl, fun _ => ⟨g, 0, rfl, hg, by rw [h]; exact Nat.le_refl 3, fun k hk j hj => by
    rw [h]
    obtain rfl : k = 0 := by omega
    match j, hj with
    | 0, _ => rfl
    | 1, _ => rfl
    | 2, _ => rfl⟩⟩)
  obtain ⟨fa, fd, fp⟩ := f
  simp only at HSL HI ⊢
  go_enter Try.func17, Try.ntmps17
  go_wp2_with (go_at_call 29; refine (HI.out _ _ (HSL.out _ _ (by (go_simp <;> (intros; omega))) (by first | omega | (simp <;> omega)))).mono ?_; rintro e w1 ⟨rfl, hb1⟩; have r_hb1 := keep_rowA hb1; have f_hb1 := keep_frA hb1; have s_hb1 := hb1.size; (try simp only [World.size_alloc, World.size_setCell, setRow_size, World.size_drew, size_drewNm] at r_hb1 f_hb1 s_hb1))
  exact bodyPost_ret (v := .tuple #[.agg (kc sk 266 e), .int .i64 m, .int .i64 z]) (res_ctt rfl rfl (by (go_simp <;> (intros; omega))) rfl rfl) rfl ⟨rfl, by repeat' (first | with_reducible exact Below.refl _ _ | with_reducible assumption | with_reducible refine Below.drew ?_ | with_reducible refine Below.drewN ?_ _ | with_reducible refine Below.alloc ?_ ?_ _ | with_reducible refine Below.setCell ?_ ?_ _ | with_reducible refine Below.setRow ?_ ?_ _ | with_reducible refine below_step (by assumption) ?_ ?_ | (show (_ : Nat) ≤ _; first | omega | (simp <;> omega)))⟩
theorem paCode_one (c : Nat → Int) (f : Fd) : paCode c (fun _ => f) 1 = if okS c = true then (if foldB c f.a f.d f.p = true then 0 else 2) else 1 := by
  unfold paCode
  by_cases ho : okS c = true
  · rw [if_pos ho, if_pos ho, if_neg (by omega)]
    by_cases hf : foldB c f.a f.d f.p = true
    · rw [if_pos hf, if_pos (foldsB_yes (fun i hi => hf))]
    · rw [if_neg hf, if_neg (fun h => hf (foldsB_to h 0 (by omega)))]
  · rw [if_neg ho, if_neg ho]
set_option maxHeartbeats 4000000 in
theorem l03Asked_any (p : Nat) (c : Nat → Int) (hfc : FitSheet c) (f : Fd) (hf : FdIn f) (w : World) (hr : rowOf w p = kc sk 266 c) (hp : p < w.heap.size) :
    Calls Try.prog 45 #[.pointer (some ⟨p, 0, none⟩), .agg #[.int .i8 f.a, .bool f.d, .int .i8 f.p], .bool true] w fun e w' => e = .returned (.int .i64 (paCode c (fun _ => f) 1)) ∧ Below w.heap.size w w' := by
  have hO := fun w hr hp => l01Ok_any p c hfc w hr hp
  have hFO := fun w hr hp => l03Fold_any p c hfc f.a f.d f.p hf.1 hf.2 w hr hp
  rw [paCode_one]
  generalize okS c = b1 at hO ⊢
  generalize foldB c f.a f.d f.p = b2 at hFO ⊢
  have HO := Lib.hid hO
  have HFO := Lib.hid hFO
  clear hO hFO hf
  obtain ⟨fa, fd, fp⟩ := f
  simp only at HFO ⊢
  cases b1 <;> cases b2
  all_goals
    go_enter Try.func45, Try.ntmps45
    go_wp2_with (first | (go_at_call 54; refine (HO.out _ (by (go_simp <;> (intros; omega))) (by first | omega | (simp <;> omega))).mono ?_; rintro e w1 ⟨rfl, hb1⟩; have r1 := keep_rowA hb1; have f1 := keep_frA hb1; have s1 := hb1.size; (try simp only [World.size_alloc, World.size_setCell, setRow_size, World.size_drew, size_drewNm] at r1 f1 s1)) | (go_at_call 63; refine (HFO.out _ (by (go_simp <;> (intros; omega))) (by first | omega | (simp <;> omega))).mono ?_; rintro e w1 ⟨rfl, hb1⟩; have r1 := keep_rowA hb1; have f1 := keep_frA hb1; have s1 := hb1.size; (try simp only [World.size_alloc, World.size_setCell, setRow_size, World.size_drew, size_drewNm] at r1 f1 s1)))
    go_ret
    exact ⟨rfl, by repeat' (first | with_reducible exact Below.refl _ _ | with_reducible assumption | with_reducible refine Below.drew ?_ | with_reducible refine Below.drewN ?_ _ | with_reducible refine Below.alloc ?_ ?_ _ | with_reducible refine Below.setCell ?_ ?_ _ | with_reducible refine Below.setRow ?_ ?_ _ | with_reducible refine below_step (by assumption) ?_ ?_ | (show (_ : Nat) ≤ _; first | omega | (simp <;> omega)))⟩
set_option maxHeartbeats 4000000 in
theorem sPressOnce_any (c : Nat → Int) (hfc : FitSheet c) (f : Fd) (hf : FdIn f) (w : World) :
    Calls Try.prog 14 #[.agg (kc sk 266 c), .agg #[.int .i8 f.a, .bool f.d, .int .i8 f.p]] w fun e w' => e = .returned (paV c (fun _ => f) 1) ∧ Below w.heap.size w w' := by
  have hA := fun w2 hr hp => l03Asked_any w.heap.size c hfc f hf w2 hr hp
  by_cases hz : paCode c (fun _ => f) 1 = 0
  case neg =>
    rw [paV_no _ hz rfl]
    generalize paCode c (fun _ => f) 1 = z at *
    have HA := Lib.hid hA
    have hz2 : (z != 0) = true := by simpa using hz
    clear hA hf hz
    obtain ⟨fa, fd, fp⟩ := f
    simp only at HA ⊢
    go_enter Try.func14, Try.ntmps14
    go_wp2_with ((go_at_call 45; refine (HA.out _ (by (go_simp <;> (intros; omega))) (by first | omega | (simp <;> omega))).mono ?_; rintro e w1 ⟨rfl, hb1⟩; have r1 := keep_rowA hb1; have f1 := keep_frA hb1; have s1 := hb1.size; (try simp only [World.size_alloc, World.size_setCell, setRow_size, World.size_drew, size_drewNm] at r1 f1 s1)))
    exact bodyPost_ret (v := .tuple #[.agg (kc sk 266 fun _ => 0), .int .i64 0, .int .i64 z]) (res_ctt rfl rfl (by (go_simp <;> (intros; omega))) rfl rfl) rfl ⟨rfl, by repeat' (first | with_reducible exact Below.refl _ _ | with_reducible assumption | with_reducible refine Below.drew ?_ | with_reducible refine Below.drewN ?_ _ | with_reducible refine Below.alloc ?_ ?_ _ | with_reducible refine Below.setCell ?_ ?_ _ | with_reducible refine Below.setRow ?_ ?_ _ | with_reducible refine below_step (by assumption) ?_ ?_ | (show (_ : Nat) ≤ _; first | omega | (simp <;> omega)))⟩
  rw [hz] at hA
  have hz1 := hz
  rw [paCode_one] at hz1
  have ho : okS c = true := by by_cases h : okS c = true; exact h; rw [if_neg h] at hz1; omega
  rw [if_pos ho] at hz1
  have hfo : foldB c f.a f.d f.p = true := by by_cases h : foldB c f.a f.d f.p = true; exact h; rw [if_neg h] at hz1; omega
  obtain ⟨W, H, hW, hH, W0, H0, W8, H8⟩ := okS_sides ho
  obtain ⟨ia, ip⟩ := foldB_in hW hH W8 H8 hfo
  have hg0 := goodP_start hfc ho hW hH
  have hPR := fun w2 hr hp hfp => l03Pressed_any w.heap.size w.heap.size (Nat.le_refl _) c W H W0 H0 W8 H8 hg0 f.a f.d f.p ia ip w2 hr hp hfp
  have hv : paV c (fun _ => f) 1 = .tuple #[.agg (kc sk 266 (prF c f.a f.d f.p W H).c), .int .i64 (prF c f.a f.d f.p W H).m, .int .i64 0] := by
    rw [paV_yes hz hW hH, prA_next]
    show Value.tuple #[_, .int .i64 (0 + _), _] = _
    rw [Int.zero_add]; rfl
  rw [hv]
  generalize prF c f.a f.d f.p W H = S at *
  have HA := Lib.hid hA
  have HPR := Lib.hid hPR
  clear hA hPR hz hz1 ho hfo hW hH hv hg0 ia ip hf
  obtain ⟨fa, fd, fp⟩ := f
  simp only at HA HPR ⊢
  go_enter Try.func14, Try.ntmps14
  go_wp2_with ((go_at_call 45; refine (HA.out _ (by (go_simp <;> (intros; omega))) (by first | omega | (simp <;> omega))).mono ?_; rintro e w1 ⟨rfl, hb1⟩; have r1 := keep_rowA hb1; have f1 := keep_frA hb1; have s1 := hb1.size; (try simp only [World.size_alloc, World.size_setCell, setRow_size, World.size_drew, size_drewNm] at r1 f1 s1)))
  go_wp2_with (go_at_call 46; refine (HPR.out _ (by (go_simp <;> (intros; omega))) (by first | omega | (simp <;> omega)) (by (go_simp <;> (intros; omega)))).mono ?_; rintro e w2 ⟨rfl, ho1⟩; obtain ⟨o1, o2, o3, o4, o5⟩ := ho1; have q1 := (o4 (w.heap.size + 2) (by omega) (by first | omega | (simp <;> omega))).1; have q2 := (o4 (w.heap.size + 2) (by omega) (by first | omega | (simp <;> omega))).2)
  exact bodyPost_ret (v := .tuple #[.agg (kc sk 266 S.c), .int .i64 S.m, .int .i64 0]) (res_ctt rfl rfl (by (go_simp <;> (intros; omega))) rfl rfl) rfl ⟨rfl, by repeat' (first | with_reducible exact Below.refl _ _ | with_reducible assumption | with_reducible refine Below.drew ?_ | with_reducible refine Below.drewN ?_ _ | with_reducible refine Below.alloc ?_ ?_ _ | with_reducible refine Below.setCell ?_ ?_ _ | with_reducible refine Below.setRow ?_ ?_ _ | with_reducible refine below_step (by assumption) ?_ ?_ | (show (_ : Nat) ≤ _; first | omega | (simp <;> omega)))⟩
end Go.Proofs.Ytbnhhjjhjjmmjaa
