/- Ink goes over from a sheet to another one: the program. -/
import Derived.Test.YtfcffihenmjafaaBlotP
import Derived.Test.YtfcffihenmjafaaWaterI
import Derived.BigQuiet
import Derived.Deep.RegionHeld3
namespace Go.Proofs.Ytfcffihenmjafaa
open Go.RowKit
set_option linter.unusedVariables false
set_option linter.unusedSimpArgs false
set_option maxRecDepth 100000
theorem isWet_any (p : Nat) (c : Nat → Int) (hf : FitSheet c) (x y : Nat) (hx : x < 8) (hy : y < 8) (w : World) (hr : rowOf w p = kc sk 266 c) (hp : p < w.heap.size) :
    Calls Try.prog 110 #[.pointer (some ⟨p, 0, none⟩), .agg #[.int .i8 x, .int .i8 y]] w fun e w' => e = .returned (.bool (decide (0 < c (2 + y * 8 + x)))) ∧ Below w.heap.size w w' := by
  go_enter Try.func110, Try.ntmps110
  go_wp2_with ((go_at_call 96; refine (wet_any p c hf x y hx hy _ (by (go_simp <;> (intros; omega))) (by first | omega | (simp <;> omega))).mono ?_; rintro e w1 ⟨rfl, hb1⟩; have r1 := keep_rowA hb1; have f1 := keep_frA hb1; have s1 := hb1.size; (try simp only [World.size_alloc, World.size_setCell, setRow_size, World.size_drew, size_drewNm] at r1 f1 s1)))
  go_ret
  exact ⟨rfl, by repeat' (first | with_reducible exact Below.refl _ _ | with_reducible assumption | with_reducible refine Below.drew ?_ | with_reducible refine Below.drewN ?_ _ | with_reducible refine Below.alloc ?_ ?_ _ | with_reducible refine Below.setCell ?_ ?_ _ | with_reducible refine Below.setRow ?_ ?_ _ | with_reducible refine below_step (by assumption) ?_ ?_ | (show (_ : Nat) ≤ _; first | omega | (simp <;> omega)))⟩
set_option maxHeartbeats 16000000 in
theorem blot_any (p q B : Nat) (hpq : p ≠ q) (hB1 : B ≤ p) (hB2 : B ≤ q) (c d : Nat → Int) (W H : Nat) (W0 : 0 < W) (H0 : 0 < H) (W8 : W ≤ 8) (H8 : H ≤ 8) (hg : GoodB W H 0 ⟨c, d, 0⟩) (pr : Int) (hpr : 1 ≤ pr ∧ pr ≤ 8) (w : World) (hr : rowOf w p = kc sk 266 c) (hp : p < w.heap.size) (hr2 : rowOf w q = kc sk 266 d) (hq : q < w.heap.size) (hfp : frOf w p = (0, 0)) (hfq : frOf w q = (0, 0)) :
    Calls Try.prog 71 #[.pointer (some ⟨p, 0, none⟩), .pointer (some ⟨q, 0, none⟩), .int .i64 pr] w fun e w' => e = .returned (.int .i64 (blN pr W ⟨c, d, 0⟩ (H * W)).m) ∧ Two p q B w w' (blN pr W ⟨c, d, 0⟩ (H * W)) := by
  have hn0 : 0 < H * W := Nat.mul_pos H0 W0
  have hnb : H * W ≤ 8 * W := Nat.mul_le_mul_right _ H8
  have hnb2 : H * W ≤ 64 := by omega
  have HGN := Lib.hid (fun n hn => goodN (s := ⟨c, d, 0⟩) hpr W0 W8 H8 hg n hn)
  have hfc := hg.fc
  have hw0 := hg.w0
  have hh0 := hg.h0
  simp only at hw0 hh0 hfc
  clear hg
  generalize hn : H * W = n at *
  go_enter Try.func71, Try.ntmps71
  go_wp2_with (go_at_call 102; refine (cells_any _ c hfc W H hw0 hh0 W8 H8 _ (by (go_simp <;> (intros; omega))) (by first | omega | (simp <;> omega))).mono ?_; rintro e wc ⟨v, rfl, hown, hbc⟩; have r_hbc := keep_rowA hbc; have f_hbc := keep_frA hbc; have s_hbc := hbc.size; (try simp only [World.size_alloc, World.size_setCell, setRow_size, World.size_drew, size_drewNm] at r_hbc f_hbc s_hbc); rw [hn] at hown; obtain ⟨g, cap, rfl, hg, hgs, hcells⟩ := owns_some hown hn0; have HC := Lib.hid hcells; clear hown hcells)
  go_loopw [18, 7] (fun i s wr => ∃ k : Nat, k ≤ n ∧ i = .int .i64 k ∧ s = .int .i64 (blN pr W ⟨c, d, 0⟩ k).m ∧ BlR p q B w wc g (blN pr W ⟨c, d, 0⟩ k) wr) (fun i s wr => n - (intOf i).toNat)
  case atStart => exact ⟨0, by omega, rfl, rfl, ⟨by show rowOf _ _ = kc sk 266 c; (go_simp <;> (intros; omega)), by show rowOf _ _ = kc sk 266 d; (go_simp <;> (intros; omega)), by (go_simp <;> (intros; omega)), by (go_simp <;> (intros; omega)), (by first | omega | (simp <;> omega)), fun b h1 h2 h3 => ⟨by (go_simp <;> (intros; omega)), by (go_simp <;> (intros; omega))⟩, Below.mono (show Below w.heap.size w _ from by repeat' (first | with_reducible exact Below.refl _ _ | with_reducible assumption | with_reducible refine Below.drew ?_ | with_reducible refine Below.drewN ?_ _ | with_reducible refine Below.alloc ?_ ?_ _ | with_reducible refine Below.setCell ?_ ?_ _ | with_reducible refine Below.setRow ?_ ?_ _ | with_reducible refine below_step (by assumption) ?_ ?_ | (show (_ : Nat) ≤ _; first | omega | (simp <;> omega)))) (by omega)⟩, Nat.le_refl _, rfl⟩
  case round =>
    clear r_hbc f_hbc
    obtain ⟨k, hk, rfl, rfl, ⟨hrp, hrq, hfp, hfq, hsz0, hoth, hbl⟩, hsz1, hgr0⟩ := hrel
    obtain ⟨wo, rfl⟩ : ∃ wo : World, wo = wr := ⟨_, rfl⟩
    have HO := Lib.hid hoth
    clear hoth
    obtain ⟨st, hst⟩ : ∃ st, st = blN pr W ⟨c, d, 0⟩ k := ⟨_, rfl⟩
    have hgd := HGN.out k hk
    rw [← hst] at hrp hrq hgd ⊢
    have hpo : p < wo.heap.size := by omega
    have hqo : q < wo.heap.size := by omega
    have hgo : g < wo.heap.size := by omega
    by_cases hlt : k < n
    · obtain ⟨c1, c2⟩ := spots_drop W n k hlt
      have r1 := hgr0 ▸ HC.out _ _ c1
      have r2 := hgr0 ▸ HC.out _ _ c2
      have hxW := Nat.mod_lt k W0
      have hyH : k / W < H := (Nat.div_lt_iff_lt_mul W0).2 (by omega)
      have HG := Lib.hid hgr0
      have HST := Lib.hid (show blN pr W ⟨c, d, 0⟩ (k + 1) = blC pr (k % W) (W - 1 - k % W) (k / W) st by rw [hst]; rfl)
      clear hgr0 c1 c2 hst
      generalize k % W = x at *
      generalize k / W = y at *
      obtain ⟨x2, hx2⟩ : ∃ x2 : Nat, W - 1 - x = x2 := ⟨_, rfl⟩
      rw [hx2] at HST
      have hx8 : x < 8 := by omega
      have hy8 : y < 8 := by omega
      have hx28 : x2 < 8 := by omega
      have hxx : (W : Int) - 1 - (x : Int) = (x2 : Int) := by omega
      have hw0' : st.c 0 = (W : Int) := hgd.w0
      have hwet := hgd.fc.cell (2 + y * 8 + x) (by omega) (by omega)
      have hfd := hgd.fd
      have hfs := hgd.fc
      have hwet0 := hgd.wet (2 + y * 8 + x) (by omega) (by omega)
      have HGD := Lib.hid hgd
      have ⟨sm1, sm2⟩ := hgd.m0
      clear hgd
      clear hx2
      obtain ⟨sc, sd, sm⟩ := st
      simp only at hrp hrq hw0' hwet hfd hfs hwet0 sm1 sm2 ⊢
      have hWT := fun w hr hp => isWet_any p sc hfs x y hx8 hy8 w hr hp
      by_cases hz : sc (2 + y * 8 + x) = 0
      · have HN := Lib.hid (show blC pr x x2 y ⟨sc, sd, sm⟩ = ⟨sc, sd, sm⟩ from if_pos (.inl hz))
        rw [show decide (0 < sc (2 + y * 8 + x)) = false from decide_eq_false (by omega)] at hWT
        have HWT := Lib.hid hWT
        clear hz hWT
        go_wp2
        go_region
        go_wp2_with ((go_at_call 110; refine (HWT.out _ (by (go_simp <;> (intros; omega))) (by first | omega | (simp <;> omega))).mono ?_; rintro e w1 ⟨rfl, hb1⟩; have r1 := keep_rowA hb1; have f1 := keep_frA hb1; have s1 := hb1.size; (try simp only [World.size_alloc, World.size_setCell, setRow_size, World.size_drew, size_drewNm] at r1 f1 s1)))
        go_roundw
        case rel => first | exact ⟨k + 1, by omega, by go_num, by rw [HST.out, HN.out], ⟨by rw [HST.out, HN.out]; (go_simp <;> (intros; omega)), by rw [HST.out, HN.out]; (go_simp <;> (intros; omega)), by (go_simp <;> (intros; omega)), by (go_simp <;> (intros; omega)), (by first | omega | (simp <;> omega)), fun b h1 h2 h3 => ⟨by go_simp <;> first | exact (HO.out b h1 h2 h3).1 | (intros; omega), by go_simp <;> first | exact (HO.out b h1 h2 h3).2 | (intros; omega)⟩, by repeat' (first | with_reducible exact Below.refl _ _ | with_reducible assumption | with_reducible refine Below.drew ?_ | with_reducible refine Below.drewN ?_ _ | with_reducible refine Below.alloc ?_ ?_ _ | with_reducible refine Below.setCell ?_ ?_ _ | with_reducible refine Below.setRow ?_ ?_ _ | with_reducible refine below_step (by assumption) ?_ ?_ | (show (_ : Nat) ≤ _; first | omega | (simp <;> omega)))⟩, (by first | omega | (simp <;> omega)), by go_simp <;> first | exact HG.out | (intros; omega)⟩ | ((repeat (with_reducible apply Exists.intro)); refine And.intro ?_ ?_; rotate_left; focus ((repeat' (with_reducible apply And.intro)) <;> rfl); exact ⟨k + 1, by omega, by go_num, by rw [HST.out, HN.out], ⟨by rw [HST.out, HN.out]; (go_simp <;> (intros; omega)), by rw [HST.out, HN.out]; (go_simp <;> (intros; omega)), by (go_simp <;> (intros; omega)), by (go_simp <;> (intros; omega)), (by first | omega | (simp <;> omega)), fun b h1 h2 h3 => ⟨by go_simp <;> first | exact (HO.out b h1 h2 h3).1 | (intros; omega), by go_simp <;> first | exact (HO.out b h1 h2 h3).2 | (intros; omega)⟩, by repeat' (first | with_reducible exact Below.refl _ _ | with_reducible assumption | with_reducible refine Below.drew ?_ | with_reducible refine Below.drewN ?_ _ | with_reducible refine Below.alloc ?_ ?_ _ | with_reducible refine Below.setCell ?_ ?_ _ | with_reducible refine Below.setRow ?_ ?_ _ | with_reducible refine below_step (by assumption) ?_ ?_ | (show (_ : Nat) ≤ _; first | omega | (simp <;> omega)))⟩, (by first | omega | (simp <;> omega)), by go_simp <;> first | exact HG.out | (intros; omega)⟩)
        case measure => simp [intOf]; omega
      rw [show decide (0 < sc (2 + y * 8 + x)) = true from decide_eq_true (by omega)] at hWT
      have HWT := Lib.hid hWT
      clear hWT
      have hX := fun w hr hp => waxed_any q sd hfd x2 y hx28 hy8 w hr hp
      rcases Bool.eq_false_or_eq_true (waxS sd x2 y) with hwx | hwx
      · have HN := Lib.hid (show blC pr x x2 y ⟨sc, sd, sm⟩ = ⟨sc, sd, sm⟩ from if_pos (.inr hwx))
        rw [hwx] at hX
        have HX := Lib.hid hX
        clear hX hwx hz
        go_wp2
        go_region
        go_wp2_with (first | (go_at_call 110; refine (HWT.out _ (by (go_simp <;> (intros; omega))) (by first | omega | (simp <;> omega))).mono ?_; rintro e w1 ⟨rfl, hb1⟩; have r1 := keep_rowA hb1; have f1 := keep_frA hb1; have s1 := hb1.size; (try simp only [World.size_alloc, World.size_setCell, setRow_size, World.size_drew, size_drewNm] at r1 f1 s1)) | (go_at_call 87; refine (HX.out _ (by (go_simp <;> (intros; omega))) (by first | omega | (simp <;> omega))).mono ?_; rintro e w1 ⟨rfl, hb1⟩; have r1 := keep_rowA hb1; have f1 := keep_frA hb1; have s1 := hb1.size; (try simp only [World.size_alloc, World.size_setCell, setRow_size, World.size_drew, size_drewNm] at r1 f1 s1)))
        all_goals
          go_roundw
          case rel => first | exact ⟨k + 1, by omega, by go_num, by rw [HST.out, HN.out], ⟨by rw [HST.out, HN.out]; (go_simp <;> (intros; omega)), by rw [HST.out, HN.out]; (go_simp <;> (intros; omega)), by (go_simp <;> (intros; omega)), by (go_simp <;> (intros; omega)), (by first | omega | (simp <;> omega)), fun b h1 h2 h3 => ⟨by go_simp <;> first | exact (HO.out b h1 h2 h3).1 | (intros; omega), by go_simp <;> first | exact (HO.out b h1 h2 h3).2 | (intros; omega)⟩, by repeat' (first | with_reducible exact Below.refl _ _ | with_reducible assumption | with_reducible refine Below.drew ?_ | with_reducible refine Below.drewN ?_ _ | with_reducible refine Below.alloc ?_ ?_ _ | with_reducible refine Below.setCell ?_ ?_ _ | with_reducible refine Below.setRow ?_ ?_ _ | with_reducible refine below_step (by assumption) ?_ ?_ | (show (_ : Nat) ≤ _; first | omega | (simp <;> omega)))⟩, (by first | omega | (simp <;> omega)), by go_simp <;> first | exact HG.out | (intros; omega)⟩ | ((repeat (with_reducible apply Exists.intro)); refine And.intro ?_ ?_; rotate_left; focus ((repeat' (with_reducible apply And.intro)) <;> rfl); exact ⟨k + 1, by omega, by go_num, by rw [HST.out, HN.out], ⟨by rw [HST.out, HN.out]; (go_simp <;> (intros; omega)), by rw [HST.out, HN.out]; (go_simp <;> (intros; omega)), by (go_simp <;> (intros; omega)), by (go_simp <;> (intros; omega)), (by first | omega | (simp <;> omega)), fun b h1 h2 h3 => ⟨by go_simp <;> first | exact (HO.out b h1 h2 h3).1 | (intros; omega), by go_simp <;> first | exact (HO.out b h1 h2 h3).2 | (intros; omega)⟩, by repeat' (first | with_reducible exact Below.refl _ _ | with_reducible assumption | with_reducible refine Below.drew ?_ | with_reducible refine Below.drewN ?_ _ | with_reducible refine Below.alloc ?_ ?_ _ | with_reducible refine Below.setCell ?_ ?_ _ | with_reducible refine Below.setRow ?_ ?_ _ | with_reducible refine below_step (by assumption) ?_ ?_ | (show (_ : Nat) ≤ _; first | omega | (simp <;> omega)))⟩, (by first | omega | (simp <;> omega)), by go_simp <;> first | exact HG.out | (intros; omega)⟩)
          case measure => simp [intOf]; omega
      · have HN := Lib.hid (show blC pr x x2 y ⟨sc, sd, sm⟩ = blK pr (dyeP x y) (dyeP x2 y) ⟨sc, sd, sm⟩ 3 from if_neg (fun h => by rcases h with h | h; exact hz h; rw [hwx] at h; cases h))
        rw [hwx] at hX
        have HX := Lib.hid hX
        clear hX hwx hz
        go_wp2
        go_region
        go_wp2_with (first | (go_at_call 110; refine (HWT.out _ (by (go_simp <;> (intros; omega))) (by first | omega | (simp <;> omega))).mono ?_; rintro e w1 ⟨rfl, hb1⟩; have r1 := keep_rowA hb1; have f1 := keep_frA hb1; have s1 := hb1.size; (try simp only [World.size_alloc, World.size_setCell, setRow_size, World.size_drew, size_drewNm] at r1 f1 s1)) | (go_at_call 87; refine (HX.out _ (by (go_simp <;> (intros; omega))) (by first | omega | (simp <;> omega))).mono ?_; rintro e w1 ⟨rfl, hb1⟩; have r1 := keep_rowA hb1; have f1 := keep_frA hb1; have s1 := hb1.size; (try simp only [World.size_alloc, World.size_setCell, setRow_size, World.size_drew, size_drewNm] at r1 f1 s1)))
        all_goals
          go_loopw [42, 7] (fun i s wx => ∃ j : Nat, j ≤ 3 ∧ i = .int .i64 j ∧ s = .int .i64 (blK pr (dyeP x y) (dyeP x2 y) ⟨sc, sd, sm⟩ j).m ∧ Two p q B w wx (blK pr (dyeP x y) (dyeP x2 y) ⟨sc, sd, sm⟩ j) ∧ wo.heap.size + 2 ≤ wx.heap.size ∧ rowOf wx g = rowOf wc g ∧ rowOf wx wo.heap.size = #[.int .i8 x, .int .i8 y] ∧ rowOf wx (wo.heap.size + 1) = #[.int .i8 x2, .int .i8 y]) (fun i s wx => 4 - (intOf i).toNat)
          case atStart => exact ⟨0, by omega, rfl, rfl, ⟨by show rowOf _ _ = kc sk 266 sc; (go_simp <;> (intros; omega)), by show rowOf _ _ = kc sk 266 sd; (go_simp <;> (intros; omega)), by (go_simp <;> (intros; omega)), by (go_simp <;> (intros; omega)), (by first | omega | (simp <;> omega)), fun b h1 h2 h3 => ⟨by go_simp <;> first | exact (HO.out b h1 h2 h3).1 | (intros; omega), by go_simp <;> first | exact (HO.out b h1 h2 h3).2 | (intros; omega)⟩, by repeat' (first | with_reducible exact Below.refl _ _ | with_reducible assumption | with_reducible refine Below.drew ?_ | with_reducible refine Below.drewN ?_ _ | with_reducible refine Below.alloc ?_ ?_ _ | with_reducible refine Below.setCell ?_ ?_ _ | with_reducible refine Below.setRow ?_ ?_ _ | with_reducible refine below_step (by assumption) ?_ ?_ | (show (_ : Nat) ≤ _; first | omega | (simp <;> omega)))⟩, (by first | omega | (simp <;> omega)), by go_simp <;> first | exact HG.out | (intros; omega), by (go_simp <;> (intros; omega)), by (go_simp <;> (intros; omega))⟩
          case round =>
            obtain ⟨j, hj, rfl, rfl, ⟨hrp, hrq, hfp, hfq, hszx, hoth, hbl⟩, hszo, hgx, hrat, hrto⟩ := hrel
            have HO := Lib.hid hoth
            have HG := Lib.hid hgx
            have hpx : p < wr.heap.size := by omega
            have hqx : q < wr.heap.size := by omega
            have hgx2 : g < wr.heap.size := by omega
            clear hoth hgx
            by_cases hj3 : j < 3
            · have hdj : decide ((j : Int) < 3) = true := decide_eq_true (by omega)
              have hgk := goodK hpr (dyeP_in hx8 hy8) (dyeP_in hx28 hy8) HGD.out j (by omega)
              have hnx : blK pr (dyeP x y) (dyeP x2 y) ⟨sc, sd, sm⟩ (j + 1) = bl1 pr (dyeP x y + j) (dyeP x2 y + j) (blK pr (dyeP x y) (dyeP x2 y) ⟨sc, sd, sm⟩ j) := rfl
              generalize blK pr (dyeP x y) (dyeP x2 y) ⟨sc, sd, sm⟩ j = t at *
              obtain ⟨cc, dd, mm⟩ := t
              have hdy := dyeP_in hx8 hy8
              have hdy2 := dyeP_in hx28 hy8
              have hv := hgk.dc (dyeP x y + j) (by omega) (by omega)
              have hu := hgk.dd (dyeP x2 y + j) (by omega) (by omega)
              have hgo2 := goes_in hpr (D := dyeP x y + j) (E := dyeP x2 y + j) (by omega) (by omega) hgk
              have ⟨tm1, tm2⟩ := hgk.m0
              simp only [bl1, goes] at hnx hgo2
              simp only at hrp hrq hv hu tm1 tm2 ⊢
              have hmul := mul_part (p := pr) hv (by omega)
              have hsk := sk_dye (k := j) hx8 hy8 hj3
              have hsk2 := sk_dye (k := j) hx28 hy8 hj3
              have hcv : cc (66 + y * 24 + x * 3 + j) = cc (dyeP x y + j) := rfl
              have hdu : dd (66 + y * 24 + x2 * 3 + j) = dd (dyeP x2 y + j) := rfl
              generalize cc (dyeP x y + j) = vv at *
              generalize dd (dyeP x2 y + j) = uu at *
              generalize hmn : mn (vv * pr / 16) (1000 - uu) = gg at *
              have HNX := Lib.hid hnx
              clear hnx hgk hdy hdy2
              have hmin := mn_cases (vv * pr / 16) (1000 - uu)
              rw [hmn] at hmin
              rcases hmin with ⟨hlt2, hmm⟩ | ⟨hlt2, hmm⟩
              all_goals
                have HM := Lib.hid hmm
                clear hmm hmn
                go_wp2
                go_quiet (fail)
                go_wp2
                go_quiet (fail)
                all_goals
                  go_wp2
                  go_roundw
                  case rel => first | exact ⟨j + 1, by omega, by go_num, by rw [HNX.out, HM.out] <;> (show Value.int _ (_ + _) = Value.int _ (_ + _); congr 2; split <;> omega), ⟨by rw [HNX.out, HM.out]; show rowOf _ _ = kc sk 266 (upI cc (66 + y * 24 + x * 3 + j) (vv - _)); go_simp <;> (intros; first | rfl | omega | (congr 2; omega)), by rw [HNX.out, HM.out]; show rowOf _ _ = kc sk 266 (upI dd (66 + y * 24 + x2 * 3 + j) (uu + _)); go_simp <;> (intros; first | rfl | omega | (congr 2; omega)), by (go_simp <;> (intros; omega)), by (go_simp <;> (intros; omega)), (by first | omega | (simp <;> omega)), fun b h1 h2 h3 => ⟨by go_simp <;> first | exact (HO.out b h1 h2 h3).1 | (intros; omega), by go_simp <;> first | exact (HO.out b h1 h2 h3).2 | (intros; omega)⟩, by repeat' (first | with_reducible exact Below.refl _ _ | with_reducible assumption | with_reducible refine Below.drew ?_ | with_reducible refine Below.drewN ?_ _ | with_reducible refine Below.alloc ?_ ?_ _ | with_reducible refine Below.setCell ?_ ?_ _ | with_reducible refine Below.setRow ?_ ?_ _ | with_reducible refine below_step (by assumption) ?_ ?_ | (show (_ : Nat) ≤ _; first | omega | (simp <;> omega)))⟩, (by first | omega | (simp <;> omega)), by go_simp <;> first | exact HG.out | (intros; omega), by (go_simp <;> (intros; omega)), by (go_simp <;> (intros; omega))⟩ | ((repeat (with_reducible apply Exists.intro)); refine And.intro ?_ ?_; rotate_left; focus ((repeat' (with_reducible apply And.intro)) <;> rfl); exact ⟨j + 1, by omega, by go_num, by rw [HNX.out, HM.out] <;> (show Value.int _ (_ + _) = Value.int _ (_ + _); congr 2; split <;> omega), ⟨by rw [HNX.out, HM.out]; show rowOf _ _ = kc sk 266 (upI cc (66 + y * 24 + x * 3 + j) (vv - _)); go_simp <;> (intros; first | rfl | omega | (congr 2; omega)), by rw [HNX.out, HM.out]; show rowOf _ _ = kc sk 266 (upI dd (66 + y * 24 + x2 * 3 + j) (uu + _)); go_simp <;> (intros; first | rfl | omega | (congr 2; omega)), by (go_simp <;> (intros; omega)), by (go_simp <;> (intros; omega)), (by first | omega | (simp <;> omega)), fun b h1 h2 h3 => ⟨by go_simp <;> first | exact (HO.out b h1 h2 h3).1 | (intros; omega), by go_simp <;> first | exact (HO.out b h1 h2 h3).2 | (intros; omega)⟩, by repeat' (first | with_reducible exact Below.refl _ _ | with_reducible assumption | with_reducible refine Below.drew ?_ | with_reducible refine Below.drewN ?_ _ | with_reducible refine Below.alloc ?_ ?_ _ | with_reducible refine Below.setCell ?_ ?_ _ | with_reducible refine Below.setRow ?_ ?_ _ | with_reducible refine below_step (by assumption) ?_ ?_ | (show (_ : Nat) ≤ _; first | omega | (simp <;> omega)))⟩, (by first | omega | (simp <;> omega)), by go_simp <;> first | exact HG.out | (intros; omega), by (go_simp <;> (intros; omega)), by (go_simp <;> (intros; omega))⟩)
                  case measure => simp [intOf]; omega
            · have hje : j = 3 := by omega
              subst hje
              generalize blK pr (dyeP x y) (dyeP x2 y) ⟨sc, sd, sm⟩ 3 = t at *
              go_wp2
              go_roundw
              case rel => first | exact ⟨k + 1, by omega, by go_num, by rw [HST.out, HN.out], ⟨by rw [HST.out, HN.out]; (go_simp <;> (intros; omega)), by rw [HST.out, HN.out]; (go_simp <;> (intros; omega)), by (go_simp <;> (intros; omega)), by (go_simp <;> (intros; omega)), (by first | omega | (simp <;> omega)), fun b h1 h2 h3 => ⟨by go_simp <;> first | exact (HO.out b h1 h2 h3).1 | (intros; omega), by go_simp <;> first | exact (HO.out b h1 h2 h3).2 | (intros; omega)⟩, by repeat' (first | with_reducible exact Below.refl _ _ | with_reducible assumption | with_reducible refine Below.drew ?_ | with_reducible refine Below.drewN ?_ _ | with_reducible refine Below.alloc ?_ ?_ _ | with_reducible refine Below.setCell ?_ ?_ _ | with_reducible refine Below.setRow ?_ ?_ _ | with_reducible refine below_step (by assumption) ?_ ?_ | (show (_ : Nat) ≤ _; first | omega | (simp <;> omega)))⟩, (by first | omega | (simp <;> omega)), by go_simp <;> first | exact HG.out | (intros; omega)⟩ | ((repeat (with_reducible apply Exists.intro)); refine And.intro ?_ ?_; rotate_left; focus ((repeat' (with_reducible apply And.intro)) <;> rfl); exact ⟨k + 1, by omega, by go_num, by rw [HST.out, HN.out], ⟨by rw [HST.out, HN.out]; (go_simp <;> (intros; omega)), by rw [HST.out, HN.out]; (go_simp <;> (intros; omega)), by (go_simp <;> (intros; omega)), by (go_simp <;> (intros; omega)), (by first | omega | (simp <;> omega)), fun b h1 h2 h3 => ⟨by go_simp <;> first | exact (HO.out b h1 h2 h3).1 | (intros; omega), by go_simp <;> first | exact (HO.out b h1 h2 h3).2 | (intros; omega)⟩, by repeat' (first | with_reducible exact Below.refl _ _ | with_reducible assumption | with_reducible refine Below.drew ?_ | with_reducible refine Below.drewN ?_ _ | with_reducible refine Below.alloc ?_ ?_ _ | with_reducible refine Below.setCell ?_ ?_ _ | with_reducible refine Below.setRow ?_ ?_ _ | with_reducible refine below_step (by assumption) ?_ ?_ | (show (_ : Nat) ≤ _; first | omega | (simp <;> omega)))⟩, (by first | omega | (simp <;> omega)), by go_simp <;> first | exact HG.out | (intros; omega)⟩)
              case measure => simp [intOf]; omega
    · have hke : k = n := by omega
      subst hke
      subst hst
      go_wp2
      go_ret
      exact ⟨rfl, by (go_simp <;> (intros; omega)), by (go_simp <;> (intros; omega)), by (go_simp <;> (intros; omega)), by (go_simp <;> (intros; omega)), (by first | omega | (simp <;> omega)), fun b h1 h2 h3 => ⟨by go_simp <;> first | exact (HO.out b h1 h2 h3).1 | (intros; omega), by go_simp <;> first | exact (HO.out b h1 h2 h3).2 | (intros; omega)⟩, by repeat' (first | with_reducible exact Below.refl _ _ | with_reducible assumption | with_reducible refine Below.drew ?_ | with_reducible refine Below.drewN ?_ _ | with_reducible refine Below.alloc ?_ ?_ _ | with_reducible refine Below.setCell ?_ ?_ _ | with_reducible refine Below.setRow ?_ ?_ _ | with_reducible refine below_step (by assumption) ?_ ?_ | (show (_ : Nat) ≤ _; first | omega | (simp <;> omega)))⟩
end Go.Proofs.Ytfcffihenmjafaa
