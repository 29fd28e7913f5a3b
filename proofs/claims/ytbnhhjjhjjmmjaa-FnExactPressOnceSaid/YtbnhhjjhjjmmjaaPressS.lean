/- A fold pressed: the reference. Written by gen_press.py. -/
import Derived.Test.YtbnhhjjhjjmmjaaPressG
import Derived.Test.YtbnhhjjhjjmmjaaPairsS
import Derived.BigRegion
namespace Go.Proofs.Ytbnhhjjhjjmmjaa
open Go.RowKit
set_option linter.unusedVariables false
set_option linter.unusedSimpArgs false
set_option maxRecDepth 100000
set_option maxHeartbeats 80000000 in
theorem l03Pressed_any (p B : Nat) (hB : B ≤ p) (c : Nat → Int) (W H : Nat) (W0 : 0 < W) (H0 : 0 < H) (W8 : W ≤ 8) (H8 : H ≤ 8) (hg : GoodP W H 0 ⟨c, 0⟩) (a : Int) (d : Bool) (q : Int) (ha : 1 ≤ a ∧ a ≤ 7) (hq : 1 ≤ q ∧ q ≤ 8) (w : World) (hr : rowOf w p = kc sk 266 c) (hp : p < w.heap.size) (hfp : frOf w p = (0, 0)) :
    Calls Try.prog 46 #[.pointer (some ⟨p, 0, none⟩), .agg #[.int .i8 a, .bool d, .int .i8 q]] w fun e w' => e = .returned (.int .i64 (prF c a d q W H).m) ∧ OneP p B w w' (prF c a d q W H) := by
  have hnb2 : H * W ≤ 64 := Nat.mul_le_mul H8 W8
  have hfc := hg.fc
  have hw0 := hg.w0
  have hh0 := hg.h0
  simp only at hw0 hh0 hfc
  have HGN := Lib.hid (fun n hn => goodPN (a := a) (d := d) (p := q) hq hw0 hh0 W0 W8 H8 hg n hn)
  have HPA := Lib.hid (fun k (hk : k < H * W) hU => pair_at (c := c) (a := a) (d := d) hw0 hh0 W0 W8 H8 hk hU)
  have HCA := Lib.hid (fun k (hk : k < H * W) => cell_at (k := k) W0 W8 H8 hk)
  have HPR := Lib.hid (fun w hr hp => l03Pairs_any p c hfc W H hw0 hh0 W0 H0 W8 H8 a d q ha w hr hp)
  have hlen := selN_le (pairU c a d W) (H * W)
  unfold prF
  obtain ⟨U, hU⟩ : ∃ U, U = pairU c a d W := ⟨_, rfl⟩
  rw [← hU] at HGN HPA HPR hlen ⊢
  obtain ⟨nn, hnn⟩ : ∃ nn, nn = H * W := ⟨_, rfl⟩
  rw [← hnn] at HGN HPA HPR HCA hlen hnb2 ⊢
  have HL := Lib.hid (fun i h k hk => prL_at U a d W nn i h k hk)
  have HCH := Lib.hid (fun i (h : i < selN U nn) => And.intro (chE_at h) (chE_in h))
  obtain ⟨N, hN⟩ : ∃ N, N = selN U nn := ⟨_, rfl⟩
  rw [← hN] at HGN HPR HCH HL hlen ⊢
  clear hU hnn hN hg hw0 hh0
  have hN64 : N ≤ 64 := by omega
  go_enter Try.func46, Try.ntmps46
  go_wp2_with (go_at_call 84; refine (HPR.out _ (by (go_simp <;> (intros; omega))) (by first | omega | (simp <;> omega))).mono ?_; rintro e wc ⟨v, rfl, hown, hbc⟩; have r_hbc := keep_rowA hbc; have f_hbc := keep_frA hbc; have s_hbc := hbc.size; (try simp only [World.size_alloc, World.size_setCell, setRow_size, World.size_drew, size_drewNm] at r_hbc f_hbc s_hbc); obtain ⟨a0, cap0, rfl⟩ := owns_len hown; have HW := Lib.hid hown; clear hown)
  have hwc := hbc.size
  have hpwc : p < wc.heap.size := by first | omega | (simp at hwc; omega)
  have hbxs : w.heap.size < wc.heap.size := by first | omega | (simp at hwc; omega)
  have HBX := Lib.hid (show rowOf wc w.heap.size = #[.int .i8 a, .bool d, .int .i8 q] from by (go_simp <;> (intros; omega)))
  have HBC := Lib.hid (show Below w.heap.size w wc from by repeat' (first | with_reducible exact Below.refl _ _ | with_reducible assumption | with_reducible refine Below.drew ?_ | with_reducible refine Below.drewN ?_ _ | with_reducible refine Below.alloc ?_ ?_ _ | with_reducible refine Below.setCell ?_ ?_ _ | with_reducible refine Below.setRow ?_ ?_ _ | with_reducible refine below_step (by assumption) ?_ ?_ | (show (_ : Nat) ≤ _; first | omega | (simp <;> omega))))
  have HRP := Lib.hid (show rowOf wc p = kc sk 266 c ∧ frOf wc p = (0, 0) from ⟨by (go_simp <;> (intros; omega)), by (go_simp <;> (intros; omega))⟩)
  clear r_hbc f_hbc s_hbc
  go_loopw [7, 5] (fun i s wr => ∃ k : Nat, k ≤ N ∧ i = .int .i64 k ∧ s = .int .i64 (prN q a d W nn U ⟨c, 0⟩ k).m ∧ OneP p B wc wr (prN q a d W nn U ⟨c, 0⟩ k)) (fun i s wr => N - (intOf i).toNat)
  case atStart => exact ⟨0, by omega, rfl, rfl, HRP.out.1, HRP.out.2, Nat.le_refl _, fun b h1 h2 => ⟨rfl, rfl⟩, Below.refl _ _⟩
  case round =>
    obtain ⟨i, hi, rfl, rfl, hrp, hfp, hsz0, hoth, hbl⟩ := hrel
    obtain ⟨wo, rfl⟩ : ∃ wo : World, wo = wr := ⟨_, rfl⟩
    have HO := Lib.hid hoth
    have hrb := (hoth w.heap.size (by omega) hbxs).1.trans HBX.out
    clear hoth
    obtain ⟨st, hst⟩ : ∃ st, st = prN q a d W nn U ⟨c, 0⟩ i := ⟨_, rfl⟩
    have hgd := HGN.out i hi
    rw [← hst] at hrp hgd ⊢
    have hpo : p < wo.heap.size := by omega
    have hbo : w.heap.size < wo.heap.size := by omega
    by_cases hlt : i < N
    · obtain ⟨g, cap, hv, hgb, hgs, hcells⟩ := pairs_somes HW.out (by omega)
      simp only [Value.slice.injEq] at hv
      obtain ⟨rfl, -, rfl⟩ := hv
      have hgp : g ≠ p := by first | omega | (simp at hgb; omega)
      have hgo : g < wo.heap.size := by omega
      obtain ⟨e0, e1, e2⟩ := HCH.out i hlt
      have HST := Lib.hid (show prN q a d W nn U ⟨c, 0⟩ (i + 1) = prC q (chE U nn i % W) (chE U nn i / W) (ptX a d W (chE U nn i)).toNat (ptY a d W (chE U nn i)).toNat st by rw [hst]; rfl)
      obtain ⟨l1, l2, l3, l4⟩ := HL.out i hlt _ e0
      generalize chE U nn i = k at *
      obtain ⟨x2, y2, hX, hY, hx28, hy28, hord⟩ := HPA.out k e1 e2
      obtain ⟨hx8, hy8, -, -⟩ := HCA.out k e1
      rw [hX, hY, Int.toNat_natCast, Int.toNat_natCast] at HST
      rw [hX] at l3
      rw [hY] at l4
      have r1 := hcells _ _ l1
      have r2 := hcells _ _ l2
      have r3 := hcells _ _ l3
      have r4 := hcells _ _ l4
      have hrg := (HO.out g hgp hgs).1
      rw [← hrg] at r1 r2 r3 r4
      have r5 := r4
      rw [show i * 4 + 3 = i * 4 + 2 + 1 from rfl] at r5
      clear l1 l2 l3 l4 hcells hst e0 e2 hX hY hrg
      generalize k % W = x at *
      generalize k / W = y at *
      have hwlt : 2 + y * 8 + x < 2 + y2 * 8 + x2 := by omega
      have hdlt : 66 + y * 24 + x * 3 + 2 < 66 + y2 * 24 + x2 * 3 := by omega
      have hx0i : (0 : Int) ≤ (x : Int) := by omega
      have hx8i : (x : Int) < 8 := by omega
      have hy0i : (0 : Int) ≤ (y : Int) := by omega
      have hy8i : (y : Int) < 8 := by omega
      have hx8j : ¬ ((x : Int) < 0) := by omega
      have hy8j : ¬ ((y : Int) < 0) := by omega
      have hx8k : ¬ (8 ≤ x) := by omega
      have hy8k : ¬ (8 ≤ y) := by omega
      have hX0i : (0 : Int) ≤ (x2 : Int) := by omega
      have hX8i : (x2 : Int) < 8 := by omega
      have hY0i : (0 : Int) ≤ (y2 : Int) := by omega
      have hY8i : (y2 : Int) < 8 := by omega
      have hX8j : ¬ ((x2 : Int) < 0) := by omega
      have hY8j : ¬ ((y2 : Int) < 0) := by omega
      have hX8k : ¬ (8 ≤ x2) := by omega
      have hY8k : ¬ (8 ≤ y2) := by omega
      have hi0 : ¬ ((i : Int) < 0) := by omega
      have hiN : ¬ (N ≤ i) := by omega
      have hskA := sk_wet2 hx8 hy8
      have hskB := sk_wet2 hx28 hy28
      have HGD := Lib.hid hgd
      have ⟨sm1, sm2⟩ := hgd.m0
      clear hgd hord
      obtain ⟨sc, sm⟩ := st
      simp only at hrp sm1 sm2 ⊢
      have HWA := Lib.hid (show ∀ k, k ≤ 3 → GoodP W H (0 + i * 3000 + k * 1000) (prK q (dyeP x y) (dyeP x2 y2) (wetP x y) (wetP x2 y2) ⟨sc, sm⟩ k) from fun k hk => goodPK hq (dyeP_in hx8 hy8) (dyeP_in hx28 hy28) HGD.out k hk)
      go_wp2
      go_loopw [10, 5] (fun v s wx => ∃ j : Nat, j ≤ 3 ∧ v = .int .i64 j ∧ s = .int .i64 (prK q (dyeP x y) (dyeP x2 y2) (wetP x y) (wetP x2 y2) ⟨sc, sm⟩ j).m ∧ OneP p B wc wx (prK q (dyeP x y) (dyeP x2 y2) (wetP x y) (wetP x2 y2) ⟨sc, sm⟩ j) ∧ wo.heap.size + 2 ≤ wx.heap.size ∧ rowOf wx wo.heap.size = #[.int .i8 x, .int .i8 y] ∧ rowOf wx (wo.heap.size + 1) = #[.int .i8 x2, .int .i8 y2]) (fun v s wx => 4 - (intOf v).toNat)
      case atStart => exact ⟨0, by omega, rfl, rfl, ⟨by show rowOf _ _ = kc sk 266 sc; (go_simp <;> (intros; omega)), by (go_simp <;> (intros; omega)), (by first | omega | (simp <;> omega)), fun b h1 h2 => ⟨by go_simp <;> first | exact (HO.out b h1 h2).1 | (intros; omega), by go_simp <;> first | exact (HO.out b h1 h2).2 | (intros; omega)⟩, by repeat' (first | with_reducible exact Below.refl _ _ | with_reducible assumption | with_reducible refine Below.drew ?_ | with_reducible refine Below.drewN ?_ _ | with_reducible refine Below.alloc ?_ ?_ _ | with_reducible refine Below.setCell ?_ ?_ _ | with_reducible refine Below.setRow ?_ ?_ _ | with_reducible refine below_step (by assumption) ?_ ?_ | (show (_ : Nat) ≤ _; first | omega | (simp <;> omega)))⟩, (by first | omega | (simp <;> omega)), by (go_simp <;> (intros; omega)), by (go_simp <;> (intros; omega))⟩
      case round =>
        obtain ⟨j, hj, rfl, rfl, ⟨hrp, hfp, hszx, hoth, hbl⟩, hszo, hrat, hrto⟩ := hrel
        have HO := Lib.hid hoth
        have hrb := (hoth w.heap.size (by omega) hbxs).1.trans HBX.out
        have hpx : p < wr.heap.size := by omega
        have hbx : w.heap.size < wr.heap.size := by omega
        clear hoth
        have hgk := HWA.out j hj
        by_cases hj3 : j < 3
        · have hdj : decide ((j : Int) < 3) = true := decide_eq_true (by omega)
          have hnx : prK q (dyeP x y) (dyeP x2 y2) (wetP x y) (wetP x2 y2) ⟨sc, sm⟩ (j + 1) = pr1 q (dyeP x y + j) (dyeP x2 y2 + j) (2 + y * 8 + x) (2 + y2 * 8 + x2) (prK q (dyeP x y) (dyeP x2 y2) (wetP x y) (wetP x2 y2) ⟨sc, sm⟩ j) := rfl
          generalize prK q (dyeP x y) (dyeP x2 y2) (wetP x y) (wetP x2 y2) ⟨sc, sm⟩ j = t at *
          obtain ⟨cc, mm⟩ := t
          have hdy := dyeP_in hx8 hy8
          have hdy2 := dyeP_in hx28 hy28
          have hv := hgk.dy (dyeP x y + j) (by omega) (by omega)
          have hu := hgk.dy (dyeP x2 y2 + j) (by omega) (by omega)
          have hwA := hgk.wt (2 + y * 8 + x) (by omega) (by omega)
          have hwB := hgk.wt (2 + y2 * 8 + x2) (by omega) (by omega)
          have ⟨tm1, tm2⟩ := hgk.m0
          simp only at hrp hv hu hwA hwB tm1 tm2 ⊢
          have hmi := mvI_in hq hv hu
          have hab := abs_in hq hv hu
          have hml := abs_le hq hv hu
          have HGO := Lib.hid (fun w => l03Goes_q (cc (dyeP x y + j)) (cc (dyeP x2 y2 + j)) q hv hu hq w)
          have hsk := sk_dye (k := j) hx8 hy8 hj3
          have hsk2 := sk_dye (k := j) hx28 hy28 hj3
          have hcv : cc (66 + y * 24 + x * 3 + j) = cc (dyeP x y + j) := rfl
          have hdu : cc (66 + y2 * 24 + x2 * 3 + j) = cc (dyeP x2 y2 + j) := rfl
          have HD := Lib.hid (show dyeP x y + j = 66 + y * 24 + x * 3 + j ∧ dyeP x2 y2 + j = 66 + y2 * 24 + x2 * 3 + j from ⟨rfl, rfl⟩)
          have HSZ := Lib.hid (fun w => l01Size_m (mvI q (cc (dyeP x y + j)) (cc (dyeP x2 y2 + j))) (by omega) w)
          rw [absI_mag] at hab
          unfold pr1 prU stops at hnx
          rw [absI_mag] at hnx
          simp only at hnx
          generalize cc (dyeP x y + j) = vv at *
          generalize cc (dyeP x2 y2 + j) = uu at *
          generalize hmv : mvI q vv uu = gg at *
          have hnv : 0 ≤ vv - gg ∧ vv - gg ≤ 1000 ∧ 0 ≤ uu + gg ∧ uu + gg ≤ 1000 := by
            by_cases hh : uu < vv
            · have := hmi.1 hh; omega
            · have := hmi.2 (by omega); omega
          have ⟨nv1, nv2, nv3, nv4⟩ := hnv
          have ⟨gl1, gl2⟩ := hml
          generalize hmg : mag gg = mg at *
          have ⟨mg1, mg2⟩ := hab
          have tm3 : (mm : Int) ≤ 1000000 := by omega
          clear hgk hdy hdy2 hmi hnv hml hab hmv hmg tm2
          rcases Int.lt_trichotomy gg 0 with h | h | h
          · have hng : ¬ (0 < gg) := by omega
            have hngd : decide (0 < gg) = false := decide_eq_false hng
            have hlgd : decide (gg < 0) = true := decide_eq_true h
            by_cases hz : cc (2 + y2 * 8 + x2) = 0
            · have hz1 : (cc (2 + y2 * 8 + x2) == 0) = true := by simpa using hz
              have HNX := Lib.hid (hnx.trans (if_pos (.inr ⟨h, hz⟩)))
              clear hnx hz
              go_wp2
              go_quiet ((go_at_call 85; exact Calls.quiet_of_same (HGO.out _)))
              go_wp2
              go_quiet (fail)
              go_wp2
              go_roundw
              case rel => first | exact ⟨j + 1, by omega, by go_num, by rw [HNX.out], ⟨by rw [HNX.out]; (go_simp <;> (intros; omega)), by (go_simp <;> (intros; omega)), (by first | omega | (simp <;> omega)), fun b h1 h2 => ⟨by go_simp <;> first | exact (HO.out b h1 h2).1 | (intros; omega), by go_simp <;> first | exact (HO.out b h1 h2).2 | (intros; omega)⟩, by repeat' (first | with_reducible exact Below.refl _ _ | with_reducible assumption | with_reducible refine Below.drew ?_ | with_reducible refine Below.drewN ?_ _ | with_reducible refine Below.alloc ?_ ?_ _ | with_reducible refine Below.setCell ?_ ?_ _ | with_reducible refine Below.setRow ?_ ?_ _ | with_reducible refine below_step (by assumption) ?_ ?_ | (show (_ : Nat) ≤ _; first | omega | (simp <;> omega)))⟩, (by first | omega | (simp <;> omega)), by (go_simp <;> (intros; omega)), by (go_simp <;> (intros; omega))⟩ | ((repeat (with_reducible apply Exists.intro)); refine And.intro ?_ ?_; rotate_left; focus ((repeat' (with_reducible apply And.intro)) <;> rfl); exact ⟨j + 1, by omega, by go_num, by rw [HNX.out], ⟨by rw [HNX.out]; (go_simp <;> (intros; omega)), by (go_simp <;> (intros; omega)), (by first | omega | (simp <;> omega)), fun b h1 h2 => ⟨by go_simp <;> first | exact (HO.out b h1 h2).1 | (intros; omega), by go_simp <;> first | exact (HO.out b h1 h2).2 | (intros; omega)⟩, by repeat' (first | with_reducible exact Below.refl _ _ | with_reducible assumption | with_reducible refine Below.drew ?_ | with_reducible refine Below.drewN ?_ _ | with_reducible refine Below.alloc ?_ ?_ _ | with_reducible refine Below.setCell ?_ ?_ _ | with_reducible refine Below.setRow ?_ ?_ _ | with_reducible refine below_step (by assumption) ?_ ?_ | (show (_ : Nat) ≤ _; first | omega | (simp <;> omega)))⟩, (by first | omega | (simp <;> omega)), by (go_simp <;> (intros; omega)), by (go_simp <;> (intros; omega))⟩)
              case measure => simp [intOf]; omega
            · have hz1 : (cc (2 + y2 * 8 + x2) == 0) = false := by simpa using hz
              have HNX := Lib.hid (hnx.trans (if_neg (fun hh => by rcases hh with ⟨h1, -⟩ | ⟨-, h2⟩; omega; exact hz h2)))
              clear hnx hz
              go_wp2
              go_quiet ((go_at_call 85; exact Calls.quiet_of_same (HGO.out _)))
              go_wp2
              go_quiet (fail)
              go_wp2
              go_region
              go_wp2
              go_region
              go_wp2_with (go_at_call 86; refine (HSZ.out _).mono ?_; rintro e w1 ⟨rfl, rfl⟩)
              go_roundw
              case rel => first | exact ⟨j + 1, by omega, by go_num, by rw [HNX.out], ⟨by rw [HNX.out]; show rowOf _ _ = kc sk 266 (upI (upI cc (66 + y * 24 + x * 3 + j) (vv - gg)) (66 + y2 * 24 + x2 * 3 + j) (uu + gg)); go_simp <;> (intros; first | rfl | omega), by (go_simp <;> (intros; omega)), (by first | omega | (simp <;> omega)), fun b h1 h2 => ⟨by go_simp <;> first | exact (HO.out b h1 h2).1 | (intros; omega), by go_simp <;> first | exact (HO.out b h1 h2).2 | (intros; omega)⟩, by repeat' (first | with_reducible exact Below.refl _ _ | with_reducible assumption | with_reducible refine Below.drew ?_ | with_reducible refine Below.drewN ?_ _ | with_reducible refine Below.alloc ?_ ?_ _ | with_reducible refine Below.setCell ?_ ?_ _ | with_reducible refine Below.setRow ?_ ?_ _ | with_reducible refine below_step (by assumption) ?_ ?_ | (show (_ : Nat) ≤ _; first | omega | (simp <;> omega)))⟩, (by first | omega | (simp <;> omega)), by (go_simp <;> (intros; omega)), by (go_simp <;> (intros; omega))⟩ | ((repeat (with_reducible apply Exists.intro)); refine And.intro ?_ ?_; rotate_left; focus ((repeat' (with_reducible apply And.intro)) <;> rfl); exact ⟨j + 1, by omega, by go_num, by rw [HNX.out], ⟨by rw [HNX.out]; show rowOf _ _ = kc sk 266 (upI (upI cc (66 + y * 24 + x * 3 + j) (vv - gg)) (66 + y2 * 24 + x2 * 3 + j) (uu + gg)); go_simp <;> (intros; first | rfl | omega), by (go_simp <;> (intros; omega)), (by first | omega | (simp <;> omega)), fun b h1 h2 => ⟨by go_simp <;> first | exact (HO.out b h1 h2).1 | (intros; omega), by go_simp <;> first | exact (HO.out b h1 h2).2 | (intros; omega)⟩, by repeat' (first | with_reducible exact Below.refl _ _ | with_reducible assumption | with_reducible refine Below.drew ?_ | with_reducible refine Below.drewN ?_ _ | with_reducible refine Below.alloc ?_ ?_ _ | with_reducible refine Below.setCell ?_ ?_ _ | with_reducible refine Below.setRow ?_ ?_ _ | with_reducible refine below_step (by assumption) ?_ ?_ | (show (_ : Nat) ≤ _; first | omega | (simp <;> omega)))⟩, (by first | omega | (simp <;> omega)), by (go_simp <;> (intros; omega)), by (go_simp <;> (intros; omega))⟩)
              case measure => simp [intOf]; omega
          · have hng : ¬ (0 < gg) := by omega
            have hnl : ¬ (gg < 0) := by omega
            have hngd : decide (0 < gg) = false := decide_eq_false hng
            have hnld : decide (gg < 0) = false := decide_eq_false hnl
            have HNX := Lib.hid (hnx.trans (if_neg (fun hh => by rcases hh with ⟨h1, -⟩ | ⟨h1, -⟩ <;> omega)))
            clear hnx h
            go_wp2
            go_quiet ((go_at_call 85; exact Calls.quiet_of_same (HGO.out _)))
            go_wp2
            go_quiet (fail)
            go_wp2
            go_region
            go_wp2
            go_region
            go_wp2_with (go_at_call 86; refine (HSZ.out _).mono ?_; rintro e w1 ⟨rfl, rfl⟩)
            go_roundw
            case rel => first | exact ⟨j + 1, by omega, by go_num, by rw [HNX.out], ⟨by rw [HNX.out]; show rowOf _ _ = kc sk 266 (upI (upI cc (66 + y * 24 + x * 3 + j) (vv - gg)) (66 + y2 * 24 + x2 * 3 + j) (uu + gg)); go_simp <;> (intros; first | rfl | omega), by (go_simp <;> (intros; omega)), (by first | omega | (simp <;> omega)), fun b h1 h2 => ⟨by go_simp <;> first | exact (HO.out b h1 h2).1 | (intros; omega), by go_simp <;> first | exact (HO.out b h1 h2).2 | (intros; omega)⟩, by repeat' (first | with_reducible exact Below.refl _ _ | with_reducible assumption | with_reducible refine Below.drew ?_ | with_reducible refine Below.drewN ?_ _ | with_reducible refine Below.alloc ?_ ?_ _ | with_reducible refine Below.setCell ?_ ?_ _ | with_reducible refine Below.setRow ?_ ?_ _ | with_reducible refine below_step (by assumption) ?_ ?_ | (show (_ : Nat) ≤ _; first | omega | (simp <;> omega)))⟩, (by first | omega | (simp <;> omega)), by (go_simp <;> (intros; omega)), by (go_simp <;> (intros; omega))⟩ | ((repeat (with_reducible apply Exists.intro)); refine And.intro ?_ ?_; rotate_left; focus ((repeat' (with_reducible apply And.intro)) <;> rfl); exact ⟨j + 1, by omega, by go_num, by rw [HNX.out], ⟨by rw [HNX.out]; show rowOf _ _ = kc sk 266 (upI (upI cc (66 + y * 24 + x * 3 + j) (vv - gg)) (66 + y2 * 24 + x2 * 3 + j) (uu + gg)); go_simp <;> (intros; first | rfl | omega), by (go_simp <;> (intros; omega)), (by first | omega | (simp <;> omega)), fun b h1 h2 => ⟨by go_simp <;> first | exact (HO.out b h1 h2).1 | (intros; omega), by go_simp <;> first | exact (HO.out b h1 h2).2 | (intros; omega)⟩, by repeat' (first | with_reducible exact Below.refl _ _ | with_reducible assumption | with_reducible refine Below.drew ?_ | with_reducible refine Below.drewN ?_ _ | with_reducible refine Below.alloc ?_ ?_ _ | with_reducible refine Below.setCell ?_ ?_ _ | with_reducible refine Below.setRow ?_ ?_ _ | with_reducible refine below_step (by assumption) ?_ ?_ | (show (_ : Nat) ≤ _; first | omega | (simp <;> omega)))⟩, (by first | omega | (simp <;> omega)), by (go_simp <;> (intros; omega)), by (go_simp <;> (intros; omega))⟩)
            case measure => simp [intOf]; omega
          · have hnl : ¬ (gg < 0) := by omega
            have hnld : decide (gg < 0) = false := decide_eq_false hnl
            have hlgd : decide (0 < gg) = true := decide_eq_true h
            by_cases hz : cc (2 + y * 8 + x) = 0
            · have hz1 : (cc (2 + y * 8 + x) == 0) = true := by simpa using hz
              have HNX := Lib.hid (hnx.trans (if_pos (.inl ⟨h, hz⟩)))
              clear hnx hz
              go_wp2
              go_quiet ((go_at_call 85; exact Calls.quiet_of_same (HGO.out _)))
              go_wp2
              go_quiet (fail)
              go_wp2
              go_roundw
              case rel => first | exact ⟨j + 1, by omega, by go_num, by rw [HNX.out], ⟨by rw [HNX.out]; (go_simp <;> (intros; omega)), by (go_simp <;> (intros; omega)), (by first | omega | (simp <;> omega)), fun b h1 h2 => ⟨by go_simp <;> first | exact (HO.out b h1 h2).1 | (intros; omega), by go_simp <;> first | exact (HO.out b h1 h2).2 | (intros; omega)⟩, by repeat' (first | with_reducible exact Below.refl _ _ | with_reducible assumption | with_reducible refine Below.drew ?_ | with_reducible refine Below.drewN ?_ _ | with_reducible refine Below.alloc ?_ ?_ _ | with_reducible refine Below.setCell ?_ ?_ _ | with_reducible refine Below.setRow ?_ ?_ _ | with_reducible refine below_step (by assumption) ?_ ?_ | (show (_ : Nat) ≤ _; first | omega | (simp <;> omega)))⟩, (by first | omega | (simp <;> omega)), by (go_simp <;> (intros; omega)), by (go_simp <;> (intros; omega))⟩ | ((repeat (with_reducible apply Exists.intro)); refine And.intro ?_ ?_; rotate_left; focus ((repeat' (with_reducible apply And.intro)) <;> rfl); exact ⟨j + 1, by omega, by go_num, by rw [HNX.out], ⟨by rw [HNX.out]; (go_simp <;> (intros; omega)), by (go_simp <;> (intros; omega)), (by first | omega | (simp <;> omega)), fun b h1 h2 => ⟨by go_simp <;> first | exact (HO.out b h1 h2).1 | (intros; omega), by go_simp <;> first | exact (HO.out b h1 h2).2 | (intros; omega)⟩, by repeat' (first | with_reducible exact Below.refl _ _ | with_reducible assumption | with_reducible refine Below.drew ?_ | with_reducible refine Below.drewN ?_ _ | with_reducible refine Below.alloc ?_ ?_ _ | with_reducible refine Below.setCell ?_ ?_ _ | with_reducible refine Below.setRow ?_ ?_ _ | with_reducible refine below_step (by assumption) ?_ ?_ | (show (_ : Nat) ≤ _; first | omega | (simp <;> omega)))⟩, (by first | omega | (simp <;> omega)), by (go_simp <;> (intros; omega)), by (go_simp <;> (intros; omega))⟩)
              case measure => simp [intOf]; omega
            · have hz1 : (cc (2 + y * 8 + x) == 0) = false := by simpa using hz
              have HNX := Lib.hid (hnx.trans (if_neg (fun hh => by rcases hh with ⟨-, h2⟩ | ⟨h1, -⟩; exact hz h2; omega)))
              clear hnx hz
              go_wp2
              go_quiet ((go_at_call 85; exact Calls.quiet_of_same (HGO.out _)))
              go_wp2
              go_quiet (fail)
              go_wp2
              go_region
              go_wp2
              go_region
              go_wp2_with (go_at_call 86; refine (HSZ.out _).mono ?_; rintro e w1 ⟨rfl, rfl⟩)
              go_roundw
              case rel => first | exact ⟨j + 1, by omega, by go_num, by rw [HNX.out], ⟨by rw [HNX.out]; show rowOf _ _ = kc sk 266 (upI (upI cc (66 + y * 24 + x * 3 + j) (vv - gg)) (66 + y2 * 24 + x2 * 3 + j) (uu + gg)); go_simp <;> (intros; first | rfl | omega), by (go_simp <;> (intros; omega)), (by first | omega | (simp <;> omega)), fun b h1 h2 => ⟨by go_simp <;> first | exact (HO.out b h1 h2).1 | (intros; omega), by go_simp <;> first | exact (HO.out b h1 h2).2 | (intros; omega)⟩, by repeat' (first | with_reducible exact Below.refl _ _ | with_reducible assumption | with_reducible refine Below.drew ?_ | with_reducible refine Below.drewN ?_ _ | with_reducible refine Below.alloc ?_ ?_ _ | with_reducible refine Below.setCell ?_ ?_ _ | with_reducible refine Below.setRow ?_ ?_ _ | with_reducible refine below_step (by assumption) ?_ ?_ | (show (_ : Nat) ≤ _; first | omega | (simp <;> omega)))⟩, (by first | omega | (simp <;> omega)), by (go_simp <;> (intros; omega)), by (go_simp <;> (intros; omega))⟩ | ((repeat (with_reducible apply Exists.intro)); refine And.intro ?_ ?_; rotate_left; focus ((repeat' (with_reducible apply And.intro)) <;> rfl); exact ⟨j + 1, by omega, by go_num, by rw [HNX.out], ⟨by rw [HNX.out]; show rowOf _ _ = kc sk 266 (upI (upI cc (66 + y * 24 + x * 3 + j) (vv - gg)) (66 + y2 * 24 + x2 * 3 + j) (uu + gg)); go_simp <;> (intros; first | rfl | omega), by (go_simp <;> (intros; omega)), (by first | omega | (simp <;> omega)), fun b h1 h2 => ⟨by go_simp <;> first | exact (HO.out b h1 h2).1 | (intros; omega), by go_simp <;> first | exact (HO.out b h1 h2).2 | (intros; omega)⟩, by repeat' (first | with_reducible exact Below.refl _ _ | with_reducible assumption | with_reducible refine Below.drew ?_ | with_reducible refine Below.drewN ?_ _ | with_reducible refine Below.alloc ?_ ?_ _ | with_reducible refine Below.setCell ?_ ?_ _ | with_reducible refine Below.setRow ?_ ?_ _ | with_reducible refine below_step (by assumption) ?_ ?_ | (show (_ : Nat) ≤ _; first | omega | (simp <;> omega)))⟩, (by first | omega | (simp <;> omega)), by (go_simp <;> (intros; omega)), by (go_simp <;> (intros; omega))⟩)
              case measure => simp [intOf]; omega
        · have hje : j = 3 := by omega
          subst hje
          have hpc : prC q x y x2 y2 ⟨sc, sm⟩ = prW q (wetP x y) (wetP x2 y2) (prK q (dyeP x y) (dyeP x2 y2) (wetP x y) (wetP x2 y2) ⟨sc, sm⟩ 3) := rfl
          generalize prK q (dyeP x y) (dyeP x2 y2) (wetP x y) (wetP x2 y2) ⟨sc, sm⟩ 3 = t at *
          obtain ⟨cc, mm⟩ := t
          have hwA := hgk.wt (2 + y * 8 + x) (by omega) (by omega)
          have hwB := hgk.wt (2 + y2 * 8 + x2) (by omega) (by omega)
          simp only at hrp hwA hwB ⊢
          have hmi := mvI_in hq hwA hwB
          have hml := abs_le hq hwA hwB
          have HGO := Lib.hid (fun w => l03Goes_q (cc (2 + y * 8 + x)) (cc (2 + y2 * 8 + x2)) q hwA hwB hq w)
          unfold prW prU at hpc
          simp only at hpc
          rw [show wetP x y = 2 + y * 8 + x from rfl, show wetP x2 y2 = 2 + y2 * 8 + x2 from rfl] at hpc
          generalize hva : cc (2 + y * 8 + x) = vv at *
          generalize hua : cc (2 + y2 * 8 + x2) = uu at *
          generalize hmv : mvI q vv uu = gg at *
          have hnv : 0 ≤ vv - gg ∧ vv - gg ≤ 1000 ∧ 0 ≤ uu + gg ∧ uu + gg ≤ 1000 := by
            by_cases hh : uu < vv
            · have := hmi.1 hh; omega
            · have := hmi.2 (by omega); omega
          have ⟨nv1, nv2, nv3, nv4⟩ := hnv
          have ⟨gl1, gl2⟩ := hml
          have HNX := Lib.hid hpc
          clear hpc hgk hmi hnv hml hmv
          go_wp2
          go_quiet ((go_at_call 85; exact Calls.quiet_of_same (HGO.out _)))
          go_wp2
          go_region
          go_wp2
          go_region
          go_wp2
          go_roundw
          case rel => first | exact ⟨i + 1, by omega, by go_num, by rw [HST.out, HNX.out], by rw [HST.out, HNX.out]; show rowOf _ _ = kc sk 266 (upI (upI cc (2 + y * 8 + x) (vv - gg)) (2 + y2 * 8 + x2) (uu + gg)); go_simp <;> (intros; first | rfl | omega), by (go_simp <;> (intros; omega)), (by first | omega | (simp <;> omega)), fun b h1 h2 => ⟨by go_simp <;> first | exact (HO.out b h1 h2).1 | (intros; omega), by go_simp <;> first | exact (HO.out b h1 h2).2 | (intros; omega)⟩, by repeat' (first | with_reducible exact Below.refl _ _ | with_reducible assumption | with_reducible refine Below.drew ?_ | with_reducible refine Below.drewN ?_ _ | with_reducible refine Below.alloc ?_ ?_ _ | with_reducible refine Below.setCell ?_ ?_ _ | with_reducible refine Below.setRow ?_ ?_ _ | with_reducible refine below_step (by assumption) ?_ ?_ | (show (_ : Nat) ≤ _; first | omega | (simp <;> omega)))⟩ | ((repeat (with_reducible apply Exists.intro)); refine And.intro ?_ ?_; rotate_left; focus ((repeat' (with_reducible apply And.intro)) <;> rfl); exact ⟨i + 1, by omega, by go_num, by rw [HST.out, HNX.out], by rw [HST.out, HNX.out]; show rowOf _ _ = kc sk 266 (upI (upI cc (2 + y * 8 + x) (vv - gg)) (2 + y2 * 8 + x2) (uu + gg)); go_simp <;> (intros; first | rfl | omega), by (go_simp <;> (intros; omega)), (by first | omega | (simp <;> omega)), fun b h1 h2 => ⟨by go_simp <;> first | exact (HO.out b h1 h2).1 | (intros; omega), by go_simp <;> first | exact (HO.out b h1 h2).2 | (intros; omega)⟩, by repeat' (first | with_reducible exact Below.refl _ _ | with_reducible assumption | with_reducible refine Below.drew ?_ | with_reducible refine Below.drewN ?_ _ | with_reducible refine Below.alloc ?_ ?_ _ | with_reducible refine Below.setCell ?_ ?_ _ | with_reducible refine Below.setRow ?_ ?_ _ | with_reducible refine below_step (by assumption) ?_ ?_ | (show (_ : Nat) ≤ _; first | omega | (simp <;> omega)))⟩)
          case measure => simp [intOf]; omega
    · have hie : i = N := by omega
      subst hie
      subst hst
      go_wp2
      go_ret
      exact ⟨rfl, hrp, hfp, by have := HBC.out.size; omega, fun b h1 h2 => ⟨(HO.out b h1 (by omega)).1.trans (keep_row HBC.out h2), (HO.out b h1 (by omega)).2.trans (keep_fr HBC.out h2)⟩, below_trans_le HBC.out hbl (by omega)⟩
end Go.Proofs.Ytbnhhjjhjjmmjaa
