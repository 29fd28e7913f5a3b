/- The cells that two pictures do not show alike: the reference. -/
import Derived.Test.YtbnhhjjhjjmmjaaThatV
import Derived.Test.YtbnhhjjhjjmmjaaPicS
import Derived.Test.YtbnhhjjhjjmmjaaAskBase
import Derived.Test.YtbnhhjjhjjmmjaaInks
namespace Go.Proofs.Ytbnhhjjhjjmmjaa
open Go.RowKit
set_option linter.unusedVariables false
set_option linter.unusedSimpArgs false
set_option maxRecDepth 100000
def unU (c d : Nat → Int) (W k : Nat) : Bool := !(pF c W k == pF d W k)
noncomputable def unCode (c d : Nat → Int) : Int := if okP c = true ∧ okP d = true then if c 0 = d 0 ∧ c 1 = d 1 then 0 else 4 else 1
noncomputable def unC (c d : Nat → Int) : Nat := if okP c = true ∧ okP d = true then if c 0 = d 0 ∧ c 1 = d 1 then selN (unU c d (c 0).toNat) ((c 1).toNat * (c 0).toNat) else 0 else 0
noncomputable def unE (c d : Nat → Int) : Nat → Int := selE (unU c d (c 0).toNat) (c 0).toNat ((c 1).toNat * (c 0).toNat)
theorem un_no {c d : Nat → Int} (h : ¬ (okP c = true ∧ okP d = true)) : unCode c d = 1 ∧ unC c d = 0 := ⟨if_neg h, if_neg h⟩
theorem un_apart {c d : Nat → Int} (h : okP c = true ∧ okP d = true) (h2 : ¬ (c 0 = d 0 ∧ c 1 = d 1)) : unCode c d = 4 ∧ unC c d = 0 := ⟨(if_pos h).trans (if_neg h2), (if_pos h).trans (if_neg h2)⟩
theorem un_yes {c d : Nat → Int} (h : okP c = true ∧ okP d = true) (h2 : c 0 = d 0 ∧ c 1 = d 1) {W H : Nat} (hW : c 0 = W) (hH : c 1 = H) :
    unCode c d = 0 ∧ unC c d = selN (unU c d W) (H * W) ∧ unE c d = selE (unU c d W) W (H * W) := by
  refine ⟨(if_pos h).trans (if_pos h2), ?_, ?_⟩
  · rw [show unC c d = _ from (if_pos h).trans (if_pos h2), hW, hH, Int.toNat_natCast, Int.toNat_natCast]
  · unfold unE; rw [hW, hH, Int.toNat_natCast, Int.toNat_natCast]
theorem unC_le (c d : Nat → Int) (hc : FitPicture c) : unC c d ≤ 64 := by
  by_cases h : okP c = true ∧ okP d = true
  · by_cases h2 : c 0 = d 0 ∧ c 1 = d 1
    · obtain ⟨W, H, hW, hH, W0, H0, W8, H8⟩ := okP_sides h.1
      rw [(un_yes h h2 hW hH).2.1]
      have h3 := selN_le (unU c d W) (H * W)
      have h4 : H * W ≤ 8 * W := Nat.mul_le_mul_right _ H8
      omega
    · rw [(un_apart h h2).2]; omega
  · rw [(un_no h).2]; omega
theorem row_grown {w w' : World} {b q : Nat} (h : w.grownBy w' (some b)) (hq : q < w.heap.size) (hne : q ≠ b) : rowOf w' q = rowOf w q := by
  unfold rowOf; rw [h.block q hq (fun e => hne (Option.some.inj e))]
theorem owns_same {w w' : World} {base : Nat} {e : TypeId} {s : Nat} {v : Value} {n : Nat} {xs : List Value} (h : w.ownsRow base e s v n xs) (hh : w'.heap = w.heap) : w'.ownsRow base e s v n xs := by
  unfold World.ownsRow at *; rw [hh]; exact h
/-- What is known at the head of a round: the chosen places so far lie in a block of their own, the boxes and the slice of all cells are as they were. -/
def UnR (c d : Nat → Int) (W n : Nat) (e : TypeId) (w ws : World) (g : Nat) (i v : Value) (wr : World) : Prop := ∃ (k b cap : Nat), k ≤ n ∧ i = .int .i64 k ∧ v = .slice (some ⟨b, 0, none⟩) (selN (unU c d W) k) cap ∧ Below w.heap.size w wr ∧ ws.heap.size ≤ wr.heap.size ∧ wr.ownsRow w.heap.size e 2 (.slice (some ⟨b, 0, none⟩) (selN (unU c d W) k) cap) (selN (unU c d W) k) (selL (unU c d W) W k) ∧ b ≠ g ∧ b ≠ w.heap.size ∧ b ≠ w.heap.size + 1 ∧ rowOf wr g = rowOf ws g ∧ rowOf wr w.heap.size = kc pk 66 c ∧ rowOf wr (w.heap.size + 1) = kc pk 66 d
set_option maxHeartbeats 4000000 in
theorem sUnlike_any (c d : Nat → Int) (hfc : FitPicture c) (hfd : FitPicture d) (w : World) : Calls Try.prog 8 #[.agg (kc pk 66 c), .agg (kc pk 66 d)] w fun e w' => ∃ v, e = .returned (.tuple #[v, .int .i64 (unCode c d)]) ∧ OwnK .i8 2 w' w.heap.size v (unC c d) (unE c d) ∧ Below w.heap.size w w' := by
  have hOc := fun p w hr hp => l07Ok_any p c hfc w hr hp
  have hOd := fun p w hr hp => l07Ok_any p d hfd w hr hp
  rcases Bool.eq_false_or_eq_true (okP c) with hoc | hoc
  case inr =>
    obtain ⟨e1, e2⟩ := un_no (c := c) (d := d) (by simp [hoc])
    rw [e1, e2]
    rw [hoc] at hOc
    have HOc := Lib.hid hOc
    clear hOc hOd hoc e1 e2
    go_enter Try.func8, Try.ntmps8
    go_wp2_with ((go_at_call 36; with_reducible refine (HOc.out _ _ ?_ ?_).mono ?_; (focus (go_simp <;> (intros; omega))); (focus (first | omega | (simp <;> omega))); rintro e w1 ⟨rfl, hb1⟩; have r1 := keep_rowA hb1; have f1 := keep_frA hb1; have s1 := hb1.size; (try simp only [World.size_alloc, World.size_setCell, setRow_size, World.size_drew, size_drewNm] at r1 f1 s1)))
    refine bodyPost_ret (v := .tuple #[_, .int .i64 1]) (res_tt rfl rfl rfl) rfl ⟨_, rfl, .inr ⟨_, _, rfl, (by first | omega | (simp <;> omega)), (by first | omega | (simp <;> omega)), by (go_simp <;> (intros; omega)), by simp, fun j hj => absurd hj (by omega)⟩, by repeat' (first | with_reducible exact Below.refl _ _ | with_reducible assumption | with_reducible refine Below.drew ?_ | with_reducible refine Below.drewN ?_ _ | with_reducible refine Below.alloc ?_ ?_ _ | with_reducible refine Below.setCell ?_ ?_ _ | with_reducible refine Below.setRow ?_ ?_ _ | with_reducible refine below_step (by assumption) ?_ ?_ | (show (_ : Nat) ≤ _; first | omega | (simp <;> omega)))⟩
  rcases Bool.eq_false_or_eq_true (okP d) with hod | hod
  case inr =>
    obtain ⟨e1, e2⟩ := un_no (c := c) (d := d) (by simp [hod])
    rw [e1, e2]
    rw [hoc] at hOc
    rw [hod] at hOd
    have HOc := Lib.hid hOc
    have HOd := Lib.hid hOd
    clear hOc hOd hoc hod e1 e2
    go_enter Try.func8, Try.ntmps8
    go_wp2_with ((go_at_call 36; with_reducible refine (HOc.out _ _ ?_ ?_).mono ?_; (focus (go_simp <;> (intros; omega))); (focus (first | omega | (simp <;> omega))); rintro e w1 ⟨rfl, hb1⟩; have r1 := keep_rowA hb1; have f1 := keep_frA hb1; have s1 := hb1.size; (try simp only [World.size_alloc, World.size_setCell, setRow_size, World.size_drew, size_drewNm] at r1 f1 s1)))
    go_wp2_with ((go_at_call 36; with_reducible refine (HOd.out _ _ ?_ ?_).mono ?_; (focus (go_simp <;> (intros; omega))); (focus (first | omega | (simp <;> omega))); rintro e w1 ⟨rfl, hb1⟩; have r1 := keep_rowA hb1; have f1 := keep_frA hb1; have s1 := hb1.size; (try simp only [World.size_alloc, World.size_setCell, setRow_size, World.size_drew, size_drewNm] at r1 f1 s1)))
    refine bodyPost_ret (v := .tuple #[_, .int .i64 1]) (res_tt rfl rfl rfl) rfl ⟨_, rfl, .inr ⟨_, _, rfl, (by first | omega | (simp <;> omega)), (by first | omega | (simp <;> omega)), by (go_simp <;> (intros; omega)), by simp, fun j hj => absurd hj (by omega)⟩, by repeat' (first | with_reducible exact Below.refl _ _ | with_reducible assumption | with_reducible refine Below.drew ?_ | with_reducible refine Below.drewN ?_ _ | with_reducible refine Below.alloc ?_ ?_ _ | with_reducible refine Below.setCell ?_ ?_ _ | with_reducible refine Below.setRow ?_ ?_ _ | with_reducible refine below_step (by assumption) ?_ ?_ | (show (_ : Nat) ≤ _; first | omega | (simp <;> omega)))⟩
  by_cases hs : c 0 = d 0 ∧ c 1 = d 1
  case neg =>
    obtain ⟨e1, e2⟩ := un_apart ⟨hoc, hod⟩ hs
    rw [e1, e2]
    rw [hoc] at hOc
    rw [hod] at hOd
    have HOc := Lib.hid hOc
    have HOd := Lib.hid hOd
    clear hOc hOd hoc hod e1 e2
    by_cases h0 : c 0 = d 0
    · have h1 : ¬ c 1 = d 1 := fun e => hs ⟨h0, e⟩
      have hb0 : (c 0 != d 0) = false := by simpa using h0
      have hb1 : (c 1 != d 1) = true := by simpa using h1
      clear hs h1
      go_enter Try.func8, Try.ntmps8
      go_wp2_with ((go_at_call 36; with_reducible refine (HOc.out _ _ ?_ ?_).mono ?_; (focus (go_simp <;> (intros; omega))); (focus (first | omega | (simp <;> omega))); rintro e w1 ⟨rfl, hb1⟩; have r1 := keep_rowA hb1; have f1 := keep_frA hb1; have s1 := hb1.size; (try simp only [World.size_alloc, World.size_setCell, setRow_size, World.size_drew, size_drewNm] at r1 f1 s1)))
      go_wp2_with ((go_at_call 36; with_reducible refine (HOd.out _ _ ?_ ?_).mono ?_; (focus (go_simp <;> (intros; omega))); (focus (first | omega | (simp <;> omega))); rintro e w1 ⟨rfl, hb1⟩; have r1 := keep_rowA hb1; have f1 := keep_frA hb1; have s1 := hb1.size; (try simp only [World.size_alloc, World.size_setCell, setRow_size, World.size_drew, size_drewNm] at r1 f1 s1)))
      refine bodyPost_ret (v := .tuple #[_, .int .i64 4]) (res_tt rfl rfl rfl) rfl ⟨_, rfl, .inr ⟨_, _, rfl, (by first | omega | (simp <;> omega)), (by first | omega | (simp <;> omega)), by (go_simp <;> (intros; omega)), by simp, fun j hj => absurd hj (by omega)⟩, by repeat' (first | with_reducible exact Below.refl _ _ | with_reducible assumption | with_reducible refine Below.drew ?_ | with_reducible refine Below.drewN ?_ _ | with_reducible refine Below.alloc ?_ ?_ _ | with_reducible refine Below.setCell ?_ ?_ _ | with_reducible refine Below.setRow ?_ ?_ _ | with_reducible refine below_step (by assumption) ?_ ?_ | (show (_ : Nat) ≤ _; first | omega | (simp <;> omega)))⟩
    · have hb0 : (c 0 != d 0) = true := by simpa using h0
      clear hs h0
      go_enter Try.func8, Try.ntmps8
      go_wp2_with ((go_at_call 36; with_reducible refine (HOc.out _ _ ?_ ?_).mono ?_; (focus (go_simp <;> (intros; omega))); (focus (first | omega | (simp <;> omega))); rintro e w1 ⟨rfl, hb1⟩; have r1 := keep_rowA hb1; have f1 := keep_frA hb1; have s1 := hb1.size; (try simp only [World.size_alloc, World.size_setCell, setRow_size, World.size_drew, size_drewNm] at r1 f1 s1)))
      go_wp2_with ((go_at_call 36; with_reducible refine (HOd.out _ _ ?_ ?_).mono ?_; (focus (go_simp <;> (intros; omega))); (focus (first | omega | (simp <;> omega))); rintro e w1 ⟨rfl, hb1⟩; have r1 := keep_rowA hb1; have f1 := keep_frA hb1; have s1 := hb1.size; (try simp only [World.size_alloc, World.size_setCell, setRow_size, World.size_drew, size_drewNm] at r1 f1 s1)))
      refine bodyPost_ret (v := .tuple #[_, .int .i64 4]) (res_tt rfl rfl rfl) rfl ⟨_, rfl, .inr ⟨_, _, rfl, (by first | omega | (simp <;> omega)), (by first | omega | (simp <;> omega)), by (go_simp <;> (intros; omega)), by simp, fun j hj => absurd hj (by omega)⟩, by repeat' (first | with_reducible exact Below.refl _ _ | with_reducible assumption | with_reducible refine Below.drew ?_ | with_reducible refine Below.drewN ?_ _ | with_reducible refine Below.alloc ?_ ?_ _ | with_reducible refine Below.setCell ?_ ?_ _ | with_reducible refine Below.setRow ?_ ?_ _ | with_reducible refine below_step (by assumption) ?_ ?_ | (show (_ : Nat) ≤ _; first | omega | (simp <;> omega)))⟩
  obtain ⟨W, H, hW, hH, W0, H0, W8, H8⟩ := okP_sides hoc
  obtain ⟨e1, e2, e3⟩ := un_yes ⟨hoc, hod⟩ hs hW hH
  rw [e1, e2, e3]
  have HS := Lib.hid (fun p w hr hp => l07Spots_any p c hfc W H hW hH W8 H8 w hr hp)
  have hn0 : 0 < H * W := Nat.mul_pos H0 W0
  have hnb : H * W ≤ 8 * W := Nat.mul_le_mul_right _ H8
  have hnb2 : H * W ≤ 64 := by omega
  have HCA := Lib.hid (fun k (hk : k < H * W) => cell_at (k := k) W0 W8 H8 hk)
  rw [hoc] at hOc
  rw [hod] at hOd
  have HOc := Lib.hid hOc
  have HOd := Lib.hid hOd
  have hb0 : (c 0 != d 0) = false := by simpa using hs.1
  have hb1 : (c 1 != d 1) = false := by simpa using hs.2
  clear hOc hOd hoc hod e1 e2 e3 hs hW hH
  generalize hn : H * W = n at *
  obtain ⟨i0, z0, hi0, hz0, hs0, hbz0, hc0⟩ := spot_info
  go_enter Try.func8, Try.ntmps8
  go_wp2_with (go_at_call 36; with_reducible refine (HOc.out _ _ ?_ ?_).mono ?_; (focus (go_simp <;> (intros; omega))); (focus (first | omega | (simp <;> omega))); rintro e wa ⟨rfl, hba⟩; have r_hba := keep_rowA hba; have f_hba := keep_frA hba; have s_hba := hba.size; (try simp only [World.size_alloc, World.size_setCell, setRow_size, World.size_drew, size_drewNm] at r_hba f_hba s_hba))
  go_wp2_with ((go_at_call 36; with_reducible refine (HOd.out _ _ ?_ ?_).mono ?_; (focus (go_simp <;> (intros; omega))); (focus (first | omega | (simp <;> omega))); rintro e w1 ⟨rfl, hb1⟩; have r1 := keep_rowA hb1; have f1 := keep_frA hb1; have s1 := hb1.size; (try simp only [World.size_alloc, World.size_setCell, setRow_size, World.size_drew, size_drewNm] at r1 f1 s1)))
  go_wp2_with (go_at_call 37; refine (HS.out _ _ (by (go_simp <;> (intros; omega))) (by first | omega | (simp <;> omega))).mono ?_; rintro e ws ⟨v, rfl, hown, hbs⟩; have r_hbs := keep_rowA hbs; have f_hbs := keep_frA hbs; have s_hbs := hbs.size; (try simp only [World.size_alloc, World.size_setCell, setRow_size, World.size_drew, size_drewNm] at r_hbs f_hbs s_hbs); obtain ⟨g, cap, rfl, hg, hgs, hcells⟩ := owns_some hown hn0; have HC := Lib.hid hcells; clear hown hcells)
  have hp0 : ws.heap[w.heap.size + 1 + 1]? = some (Obj.cells #[] 81) := by
    rw [hbs.block _ (by omega), hb1.block _ (by omega), hba.block _ (by simp)]
    have h := heap_alloc_new ((w.alloc (.cells (kc pk 66 c) 30)).alloc (.cells (kc pk 66 d) 30)) (Obj.cells #[] 81)
    rwa [show ((w.alloc (.cells (kc pk 66 c) 30)).alloc (.cells (kc pk 66 d) 30)).heap.size = w.heap.size + 1 + 1 from by simp] at h
  have hsws := hbs.size
  go_loopw [8, 6] (fun i v wr => UnR c d W n 81 w ws g i v wr) (fun i v wr => n - (intOf i).toNat)
  case atStart => exact ⟨0, w.heap.size + 1 + 1, 0, by omega, rfl, rfl, by repeat' (first | with_reducible exact Below.refl _ _ | with_reducible assumption | with_reducible refine Below.drew ?_ | with_reducible refine Below.drewN ?_ _ | with_reducible refine Below.alloc ?_ ?_ _ | with_reducible refine Below.setCell ?_ ?_ _ | with_reducible refine Below.setRow ?_ ?_ _ | with_reducible refine below_step (by assumption) ?_ ?_ | (show (_ : Nat) ≤ _; first | omega | (simp <;> omega))), Nat.le_refl _, ⟨rfl, .inr ⟨_, 0, #[], rfl, (by first | omega | (simp <;> omega)), hp0, Nat.le_refl _, by unfold maxLen; omega, rfl, rfl⟩⟩, (by first | omega | (simp <;> omega)), (by first | omega | (simp <;> omega)), (by first | omega | (simp <;> omega)), rfl, by (go_simp <;> (intros; omega)), by (go_simp <;> (intros; omega))⟩
  case round =>
    obtain ⟨k, b, cap', hk, rfl, rfl, hb, hsz, hown, hbg, hb0', hb1', hgr, hrc, hrd⟩ := hrel
    have hsb := hb.size
    have HO := Lib.hid hown
    clear hown hp0
    by_cases hlt : k < n
    · obtain ⟨p1, p2⟩ := spots_drop W n k hlt
      have r1 := HC.out _ _ p1
      have r2 := HC.out _ _ p2
      rw [← hgr] at r1 r2
      have hgw : g < wr.heap.size := Nat.lt_of_lt_of_le hgs hsz
      obtain ⟨hx8, hy8, -, -⟩ := HCA.out k hlt
      have hle := selN_le (unU c d W) k
      clear p1 p2
      have HRC := Lib.hid hrc
      have HB0 := Lib.hid hb
      by_cases hv : c (2 + k / W * 8 + k % W) = d (2 + k / W * 8 + k % W)
      · have HN := Lib.hid (sel_no (U := unU c d W) (W := W) (k := k) (by unfold unU pF; simp [hv]))
        have HOG := Lib.hid hgr
        have hbn : (c (2 + k / W * 8 + k % W) != d (2 + k / W * 8 + k % W)) = false := by simpa using hv
        clear hgr hv
        generalize k % W = x at *
        generalize k / W = y at *
        have hx8n : (0 : Int) ≤ (x : Int) := by omega
        have hy8n : (0 : Int) ≤ (y : Int) := by omega
        have hx8i : (x : Int) < 8 := by omega
        have hy8i : (y : Int) < 8 := by omega
        have hm1 : ¬ n ≤ k := by omega
        have hm2 : ¬ ((k : Int) < 0) := by omega
        have hcc := hfc.cell (2 + y * 8 + x) (by omega) (by omega)
        have hcd := hfd.cell (2 + y * 8 + x) (by omega) (by omega)
        go_wp2
        go_quiet (fail)
        go_wp2
        go_roundw
        case rel => first | exact ⟨k + 1, b, cap', by omega, by go_num, by rw [HN.out.2], by repeat' (first | with_reducible exact Below.refl _ _ | with_reducible assumption | with_reducible refine Below.drew ?_ | with_reducible refine Below.drewN ?_ _ | with_reducible refine Below.alloc ?_ ?_ _ | with_reducible refine Below.setCell ?_ ?_ _ | with_reducible refine Below.setRow ?_ ?_ _ | with_reducible refine below_step (by assumption) ?_ ?_ | (show (_ : Nat) ≤ _; first | omega | (simp <;> omega))), by simp <;> omega, by rw [HN.out.1, HN.out.2]; exact owns_same HO.out rfl, hbg, hb0', hb1', HOG.out, by (go_simp <;> (intros; omega)), by (go_simp <;> (intros; omega))⟩ | ((repeat (with_reducible apply Exists.intro)); refine And.intro ?_ ?_; rotate_left; focus ((repeat' (with_reducible apply And.intro)) <;> rfl); exact ⟨k + 1, b, cap', by omega, by go_num, by rw [HN.out.2], by repeat' (first | with_reducible exact Below.refl _ _ | with_reducible assumption | with_reducible refine Below.drew ?_ | with_reducible refine Below.drewN ?_ _ | with_reducible refine Below.alloc ?_ ?_ _ | with_reducible refine Below.setCell ?_ ?_ _ | with_reducible refine Below.setRow ?_ ?_ _ | with_reducible refine below_step (by assumption) ?_ ?_ | (show (_ : Nat) ≤ _; first | omega | (simp <;> omega))), by simp <;> omega, by rw [HN.out.1, HN.out.2]; exact owns_same HO.out rfl, hbg, hb0', hb1', HOG.out, by (go_simp <;> (intros; omega)), by (go_simp <;> (intros; omega))⟩)
        case measure => simp [intOf] <;> omega
      · have HN := Lib.hid (sel_yes (U := unU c d W) (W := W) (k := k) (by unfold unU pF; simp [hv]))
        have HOG := Lib.hid hgr
        have hbn : (c (2 + k / W * 8 + k % W) != d (2 + k / W * 8 + k % W)) = true := by simpa using hv
        clear hgr hv
        generalize k % W = x at *
        generalize k / W = y at *
        have hx8n : (0 : Int) ≤ (x : Int) := by omega
        have hy8n : (0 : Int) ≤ (y : Int) := by omega
        have hx8i : (x : Int) < 8 := by omega
        have hy8i : (y : Int) < 8 := by omega
        have hm1 : ¬ n ≤ k := by omega
        have hm2 : ¬ ((k : Int) < 0) := by omega
        have hcc := hfc.cell (2 + y * 8 + x) (by omega) (by omega)
        have hcd := hfd.cell (2 + y * 8 + x) (by omega) (by omega)
        go_wp2
        go_quiet (fail)
        go_wp2_with (at_builtin; refine wpList_append_at _ rfl _ _ 27 rfl w.heap.size 81 i0 z0 2 2 Try.underlying27 hi0 hz0 hs0 hbz0 hc0 (by decide) b cap' _ _ rfl ((owns_same HO.out rfl).alloc _) ⟨wr.heap.size, 0, none⟩ 1 1 [.int .i8 x, .int .i8 y] rfl rfl ?c1 ?c2 ?c3 ?c4 ?c5 ?_)
        case c1 =>
          intro j u hj
          match j, hj with
          | 0, hj => simp at hj; subst hj; simp [Addr.add, cell_row, row_alloc, objRow]
          | 1, hj => simp at hj; subst hj; simp [Addr.add, cell_row, row_alloc, objRow]
        case c2 => intro u hu; simp at hu; rcases hu with rfl | rfl <;> rfl
        case c3 => unfold maxLen; omega
        case c4 => omega
        case c5 => simp; omega
        intro b' cap2 w2 hown' hgrow hplace
        have hbw : w.heap.size ≤ b := owns_base HO.out b rfl
        rw [← HN.out.1, ← HN.out.2] at hown'
        have hsz2 := hgrow.size
        have hbg2 : Below w.heap.size w w2 := below_grown (by repeat' (first | with_reducible exact Below.refl _ _ | with_reducible assumption | with_reducible refine Below.drew ?_ | with_reducible refine Below.drewN ?_ _ | with_reducible refine Below.alloc ?_ ?_ _ | with_reducible refine Below.setCell ?_ ?_ _ | with_reducible refine Below.setRow ?_ ?_ _ | with_reducible refine below_step (by assumption) ?_ ?_ | (show (_ : Nat) ≤ _; first | omega | (simp <;> omega)))) hgrow (fun q e => by cases e; exact hbw) (by simp; omega)
        have k1 := row_grown (q := g) hgrow (by simp; omega) (fun e => hbg e.symm)
        have k2 := row_grown (q := w.heap.size) hgrow (by simp; omega) (fun e => hb0' e.symm)
        have k3 := row_grown (q := w.heap.size + 1) hgrow (by simp; omega) (fun e => hb1' e.symm)
        have K1 := Lib.hid (show rowOf w2 g = rowOf ws g from k1.trans (by rw [row_alloc, if_neg (by simp <;> omega)]; exact HOG.out))
        have K2 := Lib.hid (show rowOf w2 w.heap.size = kc pk 66 c from k2.trans (by rw [row_alloc, if_neg (by simp <;> omega)]; exact HRC.out))
        have K3 := Lib.hid (show rowOf w2 (w.heap.size + 1) = kc pk 66 d from k3.trans (by rw [row_alloc, if_neg (by simp <;> omega)]; exact hrd))
        have HB := Lib.hid hbg2
        have HW := Lib.hid hown'
        have hbl : b' ≠ g ∧ b' ≠ w.heap.size ∧ b' ≠ w.heap.size + 1 ∧ ws.heap.size ≤ w2.heap.size := by
          simp at hplace hsz2
          rcases hplace with h | h <;> omega
        clear k1 k2 k3 hbg2 hown' hgrow hplace hsz2
        go_wp2
        go_roundw
        case rel => first | exact ⟨k + 1, b', cap2, by omega, by go_num, by rw [HN.out.2], HB.out, hbl.2.2.2, HW.out, hbl.1, hbl.2.1, hbl.2.2.1, K1.out, K2.out, K3.out⟩ | ((repeat (with_reducible apply Exists.intro)); refine And.intro ?_ ?_; rotate_left; focus ((repeat' (with_reducible apply And.intro)) <;> rfl); exact ⟨k + 1, b', cap2, by omega, by go_num, by rw [HN.out.2], HB.out, hbl.2.2.2, HW.out, hbl.1, hbl.2.1, hbl.2.2.1, K1.out, K2.out, K3.out⟩)
        case measure => simp [intOf] <;> omega
    · have hke : k = n := by omega
      subst hke
      have HE := Lib.hid (fun j hj => selE_at (unU c d W) W k j hj)
      go_wp2
      refine bodyPost_ret (v := .tuple #[_, .int .i64 0]) (res_tt rfl rfl rfl) rfl ⟨_, rfl, OwnK.of HO.out HE.out, by repeat' (first | with_reducible exact Below.refl _ _ | with_reducible assumption | with_reducible refine Below.drew ?_ | with_reducible refine Below.drewN ?_ _ | with_reducible refine Below.alloc ?_ ?_ _ | with_reducible refine Below.setCell ?_ ?_ _ | with_reducible refine Below.setRow ?_ ?_ _ | with_reducible refine below_step (by assumption) ?_ ?_ | (show (_ : Nat) ≤ _; first | omega | (simp <;> omega)))⟩
end Go.Proofs.Ytbnhhjjhjjmmjaa
