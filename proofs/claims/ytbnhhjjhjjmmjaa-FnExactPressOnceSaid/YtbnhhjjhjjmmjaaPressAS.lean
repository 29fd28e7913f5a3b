/- Several folds pressed: the reference. -/
import Derived.Test.YtbnhhjjhjjmmjaaPressS
import Derived.Test.YtbnhhjjhjjmmjaaFoldS
import Derived.Test.YtbnhhjjhjjmmjaaPic
import Derived.IntWalk
namespace Go.Proofs.Ytbnhhjjhjjmmjaa
open Go.RowKit
set_option linter.unusedVariables false
set_option linter.unusedSimpArgs false
set_option maxRecDepth 100000
/-- All folds so far are fine. -/
def FoldsTo (c : Nat → Int) (F : Nat → Fd) (k : Nat) : Prop := ∀ i, i < k → foldB c (F i).a (F i).d (F i).p = true
open Classical in
noncomputable def foldsB (c : Nat → Int) (F : Nat → Fd) (n : Nat) : Bool := decide (FoldsTo c F n)
open Classical in
theorem foldsB_yes {c : Nat → Int} {F : Nat → Fd} {n : Nat} (h : FoldsTo c F n) : foldsB c F n = true := decide_eq_true h
open Classical in
theorem foldsB_no {c : Nat → Int} {F : Nat → Fd} {n k : Nat} (hk : k < n) (h : foldB c (F k).a (F k).d (F k).p = false) : foldsB c F n = false := decide_eq_false (fun g => by have := g k hk; rw [h] at this; cases this)
open Classical in
theorem foldsB_to {c : Nat → Int} {F : Nat → Fd} {n : Nat} (h : foldsB c F n = true) : FoldsTo c F n := by unfold foldsB at h; exact of_decide_eq_true h
theorem folds_next {c : Nat → Int} {F : Nat → Fd} {k : Nat} (h : FoldsTo c F k) (g : foldB c (F k).a (F k).d (F k).p = true) : FoldsTo c F (k + 1) := fun i h1 => by
  rcases Nat.lt_succ_iff_lt_or_eq.1 h1 with h2 | rfl
  · exact h i h2
  · exact g
noncomputable def paCode (c : Nat → Int) (F : Nat → Fd) (n : Nat) : Int := if okS c = true then (if 30 < n then 3 else if foldsB c F n = true then 0 else 2) else 1
noncomputable def paV (c : Nat → Int) (F : Nat → Fd) (n : Nat) : Value :=
  if paCode c F n = 0 then .tuple #[.agg (kc sk 266 (prA F (c 0).toNat (c 1).toNat c n).c), .int .i64 (prA F (c 0).toNat (c 1).toNat c n).m, .int .i64 0] else .tuple #[.agg (kc sk 266 fun _ => 0), .int .i64 0, .int .i64 (paCode c F n)]
theorem paV_no {c : Nat → Int} {F : Nat → Fd} {n : Nat} (z : Int) (hz : z ≠ 0) (h : paCode c F n = z) : paV c F n = .tuple #[.agg (kc sk 266 fun _ => 0), .int .i64 0, .int .i64 z] := by unfold paV; rw [h, if_neg hz]
theorem paV_yes {c : Nat → Int} {F : Nat → Fd} {n : Nat} (h : paCode c F n = 0) {W H : Nat} (hW : c 0 = W) (hH : c 1 = H) : paV c F n = .tuple #[.agg (kc sk 266 (prA F W H c n).c), .int .i64 (prA F W H c n).m, .int .i64 0] := by
  unfold paV; rw [if_pos h, hW, hH, Int.toNat_natCast, Int.toNat_natCast]
theorem paV_is (c : Nat → Int) (F : Nat → Fd) (n : Nat) : ∃ (e : Nat → Int) (m z : Int), paV c F n = .tuple #[.agg (kc sk 266 e), .int .i64 m, .int .i64 z] := by unfold paV; split <;> exact ⟨_, _, _, rfl⟩
theorem foldB_in {c : Nat → Int} {f : Fd} {W H : Nat} (hW : c 0 = W) (hH : c 1 = H) (W8 : W ≤ 8) (H8 : H ≤ 8) (h : foldB c f.a f.d f.p = true) : (1 ≤ f.a ∧ f.a ≤ 7) ∧ 1 ≤ f.p ∧ f.p ≤ 8 := by
  unfold foldB at h
  simp only [Bool.and_eq_true, inB_true] at h
  obtain ⟨⟨h1, h2⟩, h3, h4⟩ := h
  refine ⟨⟨h1, ?_⟩, h3, h4⟩
  split at h2 <;> omega
theorem oneP_transS {p B : Nat} {w w1 w2 : World} {s s' : PS} (h : OneP p B w w1 s) (g : OneP p B w1 w2 s') : OneP p B w w2 s' := by
  obtain ⟨h1, h2, h3, h4, h5⟩ := h
  obtain ⟨g1, g2, g3, g4, g5⟩ := g
  exact ⟨g1, g2, Nat.le_trans h3 g3, fun b hbp hbw => ⟨(g4 b hbp (Nat.lt_of_lt_of_le hbw h3)).1.trans (h4 b hbp hbw).1, (g4 b hbp (Nat.lt_of_lt_of_le hbw h3)).2.trans (h4 b hbp hbw).2⟩, Below.trans h5 g5⟩
theorem oneP_congrS {p B : Nat} {w w1 : World} {s s' : PS} (h : OneP p B w w1 s) (e : s.c = s'.c) : OneP p B w w1 s' := ⟨by rw [← e]; exact h.1, h.2.1, h.2.2.1, h.2.2.2.1, h.2.2.2.2⟩
theorem prA_next (F : Nat → Fd) (W H : Nat) (c : Nat → Int) (k : Nat) : prA F W H c (k + 1) = ⟨(prF (prA F W H c k).c (F k).a (F k).d (F k).p W H).c, (prA F W H c k).m + (prF (prA F W H c k).c (F k).a (F k).d (F k).p W H).m⟩ := rfl
theorem wrap_sum {a b : Int} (h : -9223372036854775808 ≤ a + b ∧ a + b ≤ 9223372036854775807) : IntKind.i64.wrap (a + b) = a + b := IntWalk.i64_in _ h
set_option maxHeartbeats 8000000 in
theorem sPressAll_any (c : Nat → Int) (hfc : FitSheet c) (v : Value) (n : Nat) (F : Nat → Fd) (hn : n ≤ 1048576) (hF : ∀ k, k < n → FdIn (F k)) (w : World) (h : SlV 3 w v n (fdV F)) :
    Calls Try.prog 27 #[.agg (kc sk 266 c), v] w fun e w' => e = .returned (paV c F n) ∧ Below w.heap.size w w' := by
  have hO := fun p w hr hp => l01Ok_any p c hfc w hr hp
  obtain ⟨a0, cap0, rfl⟩ := h.len
  have HH := Lib.hid h
  clear h
  rcases Bool.eq_false_or_eq_true (okS c) with ho | ho
  case inr =>
    rw [paV_no 1 (by omega) (by unfold paCode; rw [ho]; rfl)]
    rw [ho] at hO
    have HO := Lib.hid hO
    clear hO ho hF
    go_enter Try.func27, Try.ntmps27
    go_wp2_with ((go_at_call 54; refine (HO.out _ _ (by (go_simp <;> (intros; omega))) (by first | omega | (simp <;> omega))).mono ?_; rintro e w1 ⟨rfl, hb1⟩; have r1 := keep_rowA hb1; have f1 := keep_frA hb1; have s1 := hb1.size; (try simp only [World.size_alloc, World.size_setCell, setRow_size, World.size_drew, size_drewNm] at r1 f1 s1)))
    exact bodyPost_ret (v := .tuple #[.agg (kc sk 266 fun _ => 0), .int .i64 0, .int .i64 1]) (res_ctt rfl rfl (by (go_simp <;> (intros; omega))) rfl rfl) rfl ⟨rfl, by repeat' (first | with_reducible exact Below.refl _ _ | with_reducible assumption | with_reducible refine Below.drew ?_ | with_reducible refine Below.drewN ?_ _ | with_reducible refine Below.alloc ?_ ?_ _ | with_reducible refine Below.setCell ?_ ?_ _ | with_reducible refine Below.setRow ?_ ?_ _ | with_reducible refine below_step (by assumption) ?_ ?_ | (show (_ : Nat) ≤ _; first | omega | (simp <;> omega)))⟩
  have hoo := ho
  rw [ho] at hO
  have HO := Lib.hid hO
  clear hO
  by_cases hb : 30 < n
  · rw [paV_no 3 (by omega) (by unfold paCode; rw [ho, if_pos rfl, if_pos hb])]
    clear ho hoo hF
    have hbi : (30 : Int) < (n : Int) := by omega
    go_enter Try.func27, Try.ntmps27
    go_wp2_with ((go_at_call 54; refine (HO.out _ _ (by (go_simp <;> (intros; omega))) (by first | omega | (simp <;> omega))).mono ?_; rintro e w1 ⟨rfl, hb1⟩; have r1 := keep_rowA hb1; have f1 := keep_frA hb1; have s1 := hb1.size; (try simp only [World.size_alloc, World.size_setCell, setRow_size, World.size_drew, size_drewNm] at r1 f1 s1)))
    exact bodyPost_ret (v := .tuple #[.agg (kc sk 266 fun _ => 0), .int .i64 0, .int .i64 3]) (res_ctt rfl rfl (by (go_simp <;> (intros; omega))) rfl rfl) rfl ⟨rfl, by repeat' (first | with_reducible exact Below.refl _ _ | with_reducible assumption | with_reducible refine Below.drew ?_ | with_reducible refine Below.drewN ?_ _ | with_reducible refine Below.alloc ?_ ?_ _ | with_reducible refine Below.setCell ?_ ?_ _ | with_reducible refine Below.setRow ?_ ?_ _ | with_reducible refine below_step (by assumption) ?_ ?_ | (show (_ : Nat) ≤ _; first | omega | (simp <;> omega)))⟩
  have hbi : ¬ ((30 : Int) < (n : Int)) := by omega
  obtain ⟨W, H, hW, hH, W0, H0, W8, H8⟩ := okS_sides ho
  have HG0 := Lib.hid (goodP_start hfc ho hW hH)
  have HC := Lib.hid (show paCode c F n = if foldsB c F n = true then 0 else 2 from by unfold paCode; rw [ho, if_pos rfl, if_neg hb])
  have HF := Lib.hid hF
  have HWH := Lib.hid (And.intro hW hH)
  clear ho hoo hF hW hH
  go_enter Try.func27, Try.ntmps27
  go_wp2_with ((go_at_call 54; refine (HO.out _ _ (by (go_simp <;> (intros; omega))) (by first | omega | (simp <;> omega))).mono ?_; rintro e w1 ⟨rfl, hb1⟩; have r1 := keep_rowA hb1; have f1 := keep_frA hb1; have s1 := hb1.size; (try simp only [World.size_alloc, World.size_setCell, setRow_size, World.size_drew, size_drewNm] at r1 f1 s1)))
  have HR1 := Lib.hid (show rowOf w1 w.heap.size = kc sk 266 c ∧ frOf w1 w.heap.size = (0, 0) ∧ rowOf w1 (w.heap.size + 1) = kc sk 266 (fun _ => 0) ∧ frOf w1 (w.heap.size + 1) = (0, 0) from ⟨by (go_simp <;> (intros; omega)), by (go_simp <;> (intros; omega)), by (go_simp <;> (intros; omega)), by (go_simp <;> (intros; omega))⟩)
  have HB1 := Lib.hid (show Below w.heap.size w w1 from by repeat' (first | with_reducible exact Below.refl _ _ | with_reducible assumption | with_reducible refine Below.drew ?_ | with_reducible refine Below.drewN ?_ _ | with_reducible refine Below.alloc ?_ ?_ _ | with_reducible refine Below.setCell ?_ ?_ _ | with_reducible refine Below.setRow ?_ ?_ _ | with_reducible refine below_step (by assumption) ?_ ?_ | (show (_ : Nat) ≤ _; first | omega | (simp <;> omega))))
  have hsz1 : w.heap.size + 2 ≤ w1.heap.size := by first | omega | (have := hb1.size; simp at this; omega)
  go_loopw [7] (fun v wr => ∃ k : Nat, k ≤ n ∧ v = .int .i64 k ∧ Below w1.heap.size w1 wr ∧ FoldsTo c F k) (fun v wr => n - (intOf v).toNat)
  case atStart => exact ⟨0, by omega, rfl, by repeat' (first | with_reducible exact Below.refl _ _ | with_reducible assumption | with_reducible refine Below.drew ?_ | with_reducible refine Below.drewN ?_ _ | with_reducible refine Below.alloc ?_ ?_ _ | with_reducible refine Below.setCell ?_ ?_ _ | with_reducible refine Below.setRow ?_ ?_ _ | with_reducible refine below_step (by assumption) ?_ ?_ | (show (_ : Nat) ≤ _; first | omega | (simp <;> omega))), fun i hi => absurd hi (by omega)⟩
  case round =>
    obtain ⟨k, hk, rfl, hbk, hto⟩ := hrel
    have HT := Lib.hid hto
    clear hto
    have hszk := hbk.size
    have hrp := (keep_row hbk (show w.heap.size < w1.heap.size by omega)).trans HR1.out.1
    have hfp := (keep_fr hbk (show w.heap.size < w1.heap.size by omega)).trans HR1.out.2.1
    have hrq := (keep_row hbk (show w.heap.size + 1 < w1.heap.size by omega)).trans HR1.out.2.2.1
    have hfq := (keep_fr hbk (show w.heap.size + 1 < w1.heap.size by omega)).trans HR1.out.2.2.2
    have HBK := Lib.hid (Below.trans HB1.out (Below.mono hbk (by omega)))
    by_cases hlt : k < n
    · obtain ⟨g, o, cap', hv, hg, hRs, hcells⟩ := HH.out.pos (by omega)
      simp only [Value.slice.injEq] at hv
      obtain ⟨rfl, -, rfl⟩ := hv
      have hr1 := keep_row HBK.out hg
      have hw1 : g < wr.heap.size := by omega
      have he : rowExt (rowOf w g) (o + k * 3) 3 = #[.int .i8 (F k).a, .bool (F k).d, .int .i8 (F k).p] := ext_fold (by omega) (hcells k hlt)
      obtain ⟨R, hR⟩ : ∃ R, rowOf w g = R := ⟨_, rfl⟩
      rw [hR] at hr1 he hRs
      have hfd := HF.out k hlt
      have hFO := fun w2 hr hp => l03Fold_any w.heap.size c hfc (F k).a (F k).d (F k).p hfd.1 hfd.2 w2 hr hp
      have hm1 : ¬ n ≤ k := by omega
      have hm2 : ¬ ((k : Int) < 0) := by omega
      clear hcells hR hfd
      rcases Bool.eq_false_or_eq_true (foldB c (F k).a (F k).d (F k).p) with hfo | hfo
      · have HN := Lib.hid (folds_next HT.out hfo)
        rw [hfo] at hFO
        have HFO := Lib.hid hFO
        clear hFO hfo
        generalize (F k).a = fa at *
        generalize (F k).d = fd at *
        generalize (F k).p = fp at *
        go_wp2_with ((go_at_call 63; refine (HFO.out _ (by (go_simp <;> (intros; omega))) (by first | omega | (simp <;> omega))).mono ?_; rintro e w1 ⟨rfl, hb1⟩; have r1 := keep_rowA hb1; have f1 := keep_frA hb1; have s1 := hb1.size; (try simp only [World.size_alloc, World.size_setCell, setRow_size, World.size_drew, size_drewNm] at r1 f1 s1)))
        go_roundw
        case rel => first | exact ⟨k + 1, by omega, by go_num, by repeat' (first | with_reducible exact Below.refl _ _ | with_reducible assumption | with_reducible refine Below.drew ?_ | with_reducible refine Below.drewN ?_ _ | with_reducible refine Below.alloc ?_ ?_ _ | with_reducible refine Below.setCell ?_ ?_ _ | with_reducible refine Below.setRow ?_ ?_ _ | with_reducible refine below_step (by assumption) ?_ ?_ | (show (_ : Nat) ≤ _; first | omega | (simp <;> omega))), HN.out⟩ | ((repeat (with_reducible apply Exists.intro)); refine And.intro ?_ ?_; rotate_left; focus ((repeat' (with_reducible apply And.intro)) <;> rfl); exact ⟨k + 1, by omega, by go_num, by repeat' (first | with_reducible exact Below.refl _ _ | with_reducible assumption | with_reducible refine Below.drew ?_ | with_reducible refine Below.drewN ?_ _ | with_reducible refine Below.alloc ?_ ?_ _ | with_reducible refine Below.setCell ?_ ?_ _ | with_reducible refine Below.setRow ?_ ?_ _ | with_reducible refine below_step (by assumption) ?_ ?_ | (show (_ : Nat) ≤ _; first | omega | (simp <;> omega))), HN.out⟩)
        case measure => simp [intOf]; omega
      · have HV := Lib.hid (paV_no (c := c) (F := F) (n := n) 2 (by omega) (by rw [HC.out, foldsB_no hlt hfo]; rfl))
        rw [hfo] at hFO
        have HFO := Lib.hid hFO
        clear hFO hfo
        generalize (F k).a = fa at *
        generalize (F k).d = fd at *
        generalize (F k).p = fp at *
        go_wp2_with ((go_at_call 63; refine (HFO.out _ (by (go_simp <;> (intros; omega))) (by first | omega | (simp <;> omega))).mono ?_; rintro e w1 ⟨rfl, hb1⟩; have r1 := keep_rowA hb1; have f1 := keep_frA hb1; have s1 := hb1.size; (try simp only [World.size_alloc, World.size_setCell, setRow_size, World.size_drew, size_drewNm] at r1 f1 s1)))
        exact bodyPost_ret (v := .tuple #[.agg (kc sk 266 fun _ => 0), .int .i64 0, .int .i64 2]) (res_ctt rfl rfl (by (go_simp <;> (intros; omega))) rfl rfl) rfl ⟨by rw [HV.out], by repeat' (first | with_reducible exact Below.refl _ _ | with_reducible assumption | with_reducible refine Below.drew ?_ | with_reducible refine Below.drewN ?_ _ | with_reducible refine Below.alloc ?_ ?_ _ | with_reducible refine Below.setCell ?_ ?_ _ | with_reducible refine Below.setRow ?_ ?_ _ | with_reducible refine below_step (by assumption) ?_ ?_ | (show (_ : Nat) ≤ _; first | omega | (simp <;> omega)))⟩
    · have hke : k = n := by omega
      subst hke
      have HV := Lib.hid (paV_yes (c := c) (F := F) (n := k) (by rw [HC.out, foldsB_yes HT.out]; rfl) HWH.out.1 HWH.out.2)
      have HIN := Lib.hid (fun i (hi : i < k) => foldB_in HWH.out.1 HWH.out.2 W8 H8 (HT.out i hi))
      have HGA := Lib.hid (fun i (hi : i ≤ k) => goodPA (F := F) W0 W8 H8 HG0.out i (fun j hj => (HIN.out j (by omega)).2))
      obtain ⟨wm, rfl⟩ : ∃ wm : World, wm = wr := ⟨_, rfl⟩
      have HPM := Lib.hid (And.intro hrp hfp)
      have HQM := Lib.hid (And.intro hrq hfq)
      have hszm : w.heap.size + 2 ≤ wm.heap.size := by omega
      clear hrp hfp hrq hfq hbk
      go_wp2
      go_loopw [9, 8] (fun v s wx => ∃ i : Nat, i ≤ k ∧ v = .int .i64 i ∧ s = .int .i64 (prA F W H c i).m ∧ OneP w.heap.size w.heap.size wm wx (prA F W H c i)) (fun v s wx => k - (intOf v).toNat)
      case atStart => exact ⟨0, by omega, rfl, rfl, HPM.out.1, HPM.out.2, Nat.le_refl _, fun b h1 h2 => ⟨rfl, rfl⟩, Below.refl _ _⟩
      case round =>
        obtain ⟨i, hi, rfl, rfl, hone⟩ := hrel
        have HON := Lib.hid hone
        obtain ⟨hrp, hfp, hszx, hoth, hbx⟩ := hone
        have hrq := (hoth (w.heap.size + 1) (by omega) (by omega)).1.trans HQM.out.1
        have hfq := (hoth (w.heap.size + 1) (by omega) (by omega)).2.trans HQM.out.2
        have HBX := Lib.hid (Below.trans HBK.out hbx)
        have hg0 := HGA.out i hi
        have ⟨m1, m2⟩ := hg0.m0
        clear hoth hbx
        by_cases hli : i < k
        · obtain ⟨g, o, cap', hv, hg, hRs, hcells⟩ := HH.out.pos (by omega)
          simp only [Value.slice.injEq] at hv
          obtain ⟨rfl, -, rfl⟩ := hv
          have hr1 := keep_row HBX.out hg
          have hw1 : g < wr.heap.size := by omega
          have he : rowExt (rowOf w g) (o + i * 3) 3 = #[.int .i8 (F i).a, .bool (F i).d, .int .i8 (F i).p] := ext_fold (by omega) (hcells i hli)
          obtain ⟨R, hR⟩ : ∃ R, rowOf w g = R := ⟨_, rfl⟩
          rw [hR] at hr1 he hRs
          obtain ⟨ia, ip⟩ := HIN.out i hli
          have hnx := prA_next F W H c i
          have hgn := goodPF (a := (F i).a) (d := (F i).d) ip W0 W8 H8 (show GoodP W H (i * 192000) ⟨(prA F W H c i).c, (prA F W H c i).m⟩ from hg0)
          have hPR := fun w2 hr hp hfp => l03Pressed_any w.heap.size w.heap.size (Nat.le_refl _) (prA F W H c i).c W H W0 H0 W8 H8 ⟨hg0.fc, hg0.w0, hg0.h0, hg0.dy, hg0.wt, Int.le_refl _, Int.le_refl _⟩ (F i).a (F i).d (F i).p ia ip w2 hr hp hfp
          have ⟨n1, n2⟩ := hgn.m0
          have hm1 : ¬ k ≤ i := by omega
          have hm2 : ¬ ((i : Int) < 0) := by omega
          have hps : w.heap.size < wr.heap.size := by omega
          generalize prF (prA F W H c i).c (F i).a (F i).d (F i).p W H = S at *
          generalize prA F W H c i = T at *
          obtain ⟨tc, tm⟩ := T
          simp only at hrp m1 m2 hnx hPR ⊢
          have hws := wrap_sum (a := tm) (b := S.m) (by omega)
          have HPR := Lib.hid hPR
          have HNX := Lib.hid hnx
          clear hPR hnx hg0 hgn hcells hR ia ip m2 n2
          generalize (F i).a = fa at *
          generalize (F i).d = fd at *
          generalize (F i).p = fp at *
          go_wp2_with (go_at_call 46; refine (HPR.out _ (by (go_simp <;> (intros; omega))) (by first | omega | (simp <;> omega)) (by (go_simp <;> (intros; omega)))).mono ?_; rintro e w2 ⟨rfl, ho1⟩; have HO1 := Lib.hid ho1; clear ho1)
          go_roundw
          case rel => first | exact ⟨i + 1, by omega, by go_num, by rw [HNX.out], by rw [HNX.out]; exact oneP_congrS (oneP_transS HON.out HO1.out) rfl⟩ | ((repeat (with_reducible apply Exists.intro)); refine And.intro ?_ ?_; rotate_left; focus ((repeat' (with_reducible apply And.intro)) <;> rfl); exact ⟨i + 1, by omega, by go_num, by rw [HNX.out], by rw [HNX.out]; exact oneP_congrS (oneP_transS HON.out HO1.out) rfl⟩)
          case measure => simp [intOf]; omega
        · have hie : i = k := by omega
          subst hie
          generalize prA F W H c i = T at *
          obtain ⟨tc, tm⟩ := T
          simp only at hrp m1 m2 ⊢
          have hps : w.heap.size + 1 < wr.heap.size := by omega
          have HBF := Lib.hid (show Below w.heap.size w wr from HBX.out)
          clear hg0
          go_wp2
          exact bodyPost_ret (v := .tuple #[.agg (kc sk 266 tc), .int .i64 tm, .int .i64 0]) (res_ctt rfl rfl (by (go_simp <;> (intros; omega))) rfl rfl) rfl ⟨by rw [HV.out], by have := HBF.out; repeat' (first | with_reducible exact Below.refl _ _ | with_reducible assumption | with_reducible refine Below.drew ?_ | with_reducible refine Below.drewN ?_ _ | with_reducible refine Below.alloc ?_ ?_ _ | with_reducible refine Below.setCell ?_ ?_ _ | with_reducible refine Below.setRow ?_ ?_ _ | with_reducible refine below_step (by assumption) ?_ ?_ | (show (_ : Nat) ≤ _; first | omega | (simp <;> omega)))⟩
end Go.Proofs.Ytbnhhjjhjjmmjaa
