/- A fold pressed: the program. Written by gen_pressi.py. -/
import Derived.Test.YtbnhhjjhjjmmjaaGoOver
import Derived.Test.YtbnhhjjhjjmmjaaPairsI
import Derived.Test.YtbnhhjjhjjmmjaaBlotI
import Derived.Test.YtbnhhjjhjjmmjaaSlV
import Derived.Test.YtbnhhjjhjjmmjaaHeld
import Derived.BigRegion
import Derived.Deep.RegionHeld3
import Derived.Deep.DeepCutAuto
namespace Go.Proofs.Ytbnhhjjhjjmmjaa
open Go.RowKit
set_option linter.unusedVariables false
set_option linter.unusedSimpArgs false
set_option maxRecDepth 100000
@[go_sem] theorem oneCell_int (k : IntKind) (n : Int) : (Value.int k n).oneCell' = true := rfl
theorem size_pair : (Try.prog.info? 131).map (·.size) = some 4 := by kernel_rfl
@[go_sem ↓] theorem toLoad_pair (a : Addr) : loadVar 131 a = loadR 131 a := rfl
@[go_sem ↓] theorem toStore_pair (a : Addr) (v : Value) : storeVar 131 a v = storeR 131 a v := rfl
@[go_sem] theorem load_pair (w : World) (b o : Nat) : (loadR 131 ⟨b, o, none⟩).run Try.prog w = loaded Try.prog 131 4 w b o := run_load_rowA (P := Try.prog) 131 4 _ (by omega) Try.underlying131 rfl size_pair w b o
@[go_sem] theorem store_pair (w : World) (b o : Nat) (vs : Array Value) : (storeR 131 ⟨b, o, none⟩ (.agg vs)).run Try.prog w = storedRow Try.prog 131 4 w b o vs := run_store_rowA (P := Try.prog) 131 4 (by omega) size_pair w b o vs
@[go_sem ↓] theorem zero_pair (w : World) : (zeroValue 131).run Try.prog w = .ok (.agg (kc (fun _ => .i8) 4 fun _ => 0)) w := by kernel_rfl
theorem oneP_below {p B : Nat} {w w1 w2 : World} {s : PS} (h : OneP p B w w1 s) (hp : p < w1.heap.size) (hB : B ≤ w1.heap.size) (hb : Below w1.heap.size w1 w2) : OneP p B w w2 s := by
  obtain ⟨h1, h2, h3, h4, h5⟩ := h
  refine ⟨(keep_row hb hp).trans h1, (keep_fr hb hp).trans h2, Nat.le_trans h3 hb.size, fun b hbp hbw => ?_, Below.trans h5 (Below.mono hb hB)⟩
  have := h4 b hbp hbw
  exact ⟨(keep_row hb (Nat.lt_of_lt_of_le hbw h3)).trans this.1, (keep_fr hb (Nat.lt_of_lt_of_le hbw h3)).trans this.2⟩
theorem oneP_trans {p B : Nat} {w w1 w2 : World} {s s' : PS} (h : OneP p B w w1 s) (g : OneP p B w1 w2 s') : OneP p B w w2 s' := by
  obtain ⟨h1, h2, h3, h4, h5⟩ := h
  obtain ⟨g1, g2, g3, g4, g5⟩ := g
  exact ⟨g1, g2, Nat.le_trans h3 g3, fun b hbp hbw => ⟨(g4 b hbp (Nat.lt_of_lt_of_le hbw h3)).1.trans (h4 b hbp hbw).1, (g4 b hbp (Nat.lt_of_lt_of_le hbw h3)).2.trans (h4 b hbp hbw).2⟩, Below.trans h5 g5⟩
theorem oneP_congr {p B : Nat} {w w1 : World} {s s' : PS} (h : OneP p B w w1 s) (e : kc sk 266 s.c = kc sk 266 s'.c) : OneP p B w w1 s' := ⟨h.1.trans e, h.2.1, h.2.2.1, h.2.2.2.1, h.2.2.2.2⟩
theorem oneP_drew {p B : Nat} {w w1 : World} {s : PS} (h : OneP p B w w1 s) : OneP p B w w1.drew s := ⟨h.1, h.2.1, h.2.2.1, h.2.2.2.1, Below.drew h.2.2.2.2⟩
theorem prU_zero {p : Int} {D E : Nat} {c : Nat → Int} (h : mvI p (c D) (c E) = 0) (m : Int) : kc sk 266 (prU p D E ⟨c, m⟩) = kc sk 266 c := by
  unfold prU
  refine kc_ext fun j hj => ?_
  simp only [h]
  unfold upI
  by_cases h1 : j = E
  · rw [if_pos h1, h1]; omega
  · rw [if_neg h1]
    by_cases h2 : j = D
    · rw [if_pos h2, h2]; omega
    · rw [if_neg h2]
theorem pr1_let {p : Int} {D E wa wb : Nat} {c : Nat → Int} {m : Int} (hp : 1 ≤ p ∧ p ≤ 8) (hD : 0 ≤ c D ∧ c D ≤ 1000) (hE : 0 ≤ c E ∧ c E ≤ 1000) (ha : 0 ≤ c wa) (hb : 0 ≤ c wb) :
    kc sk 266 (if letB (decide (0 < c wa)) (decide (0 < c wb)) (c D) (c E) = true then (⟨prU p D E ⟨c, 0⟩, 0⟩ : PS) else ⟨c, 0⟩).c = kc sk 266 (pr1 p D E wa wb ⟨c, m⟩).c ∧ (pr1 p D E wa wb ⟨c, m⟩).m = m + (if letB (decide (0 < c wa)) (decide (0 < c wb)) (c D) (c E) = true then absI (mvI p (c D) (c E)) else 0) := by
  have g := mvI_in hp hD hE
  have hz : mvI p (c D) (c E) = 0 → absI (mvI p (c D) (c E)) = 0 := fun h => by rw [h]; rfl
  unfold pr1 stops letB
  simp only
  by_cases hlt : c E < c D
  · rw [if_pos hlt]
    have g1 := g.1 hlt
    by_cases hw : 0 < c wa
    · rw [if_pos (decide_eq_true hw), if_pos (decide_eq_true hw), if_neg (fun h => by rcases h with ⟨-, h⟩ | ⟨h, -⟩ <;> omega)]
      exact ⟨rfl, rfl⟩
    · have hn : ¬ (decide (0 < c wa) = true) := by simpa using hw
      rw [if_neg hn, if_neg hn]
      by_cases hg : 0 < mvI p (c D) (c E)
      · rw [if_pos (.inl ⟨hg, by omega⟩)]; exact ⟨rfl, by show m = m + 0; omega⟩
      · have h0 : mvI p (c D) (c E) = 0 := by omega
        rw [if_neg (fun h => by rcases h with ⟨h, -⟩ | ⟨h, -⟩ <;> omega)]
        exact ⟨(prU_zero h0 m).symm, by show m + _ = m + 0; rw [hz h0]⟩
  · rw [if_neg hlt]
    have g1 := g.2 (by omega)
    by_cases hw : 0 < c wb
    · rw [if_pos (decide_eq_true hw), if_pos (decide_eq_true hw), if_neg (fun h => by rcases h with ⟨h, -⟩ | ⟨-, h⟩ <;> omega)]
      exact ⟨rfl, rfl⟩
    · have hn : ¬ (decide (0 < c wb) = true) := by simpa using hw
      rw [if_neg hn, if_neg hn]
      by_cases hg : mvI p (c D) (c E) < 0
      · rw [if_pos (.inr ⟨hg, by omega⟩)]; exact ⟨rfl, by show m = m + 0; omega⟩
      · have h0 : mvI p (c D) (c E) = 0 := by omega
        rw [if_neg (fun h => by rcases h with ⟨h, -⟩ | ⟨h, -⟩ <;> omega)]
        exact ⟨(prU_zero h0 m).symm, by show m + _ = m + 0; rw [hz h0]⟩
theorem pr1_wet {p : Int} {D E wa wb : Nat} {s : PS} (hD : 66 ≤ D) (hE : 66 ≤ E) {j : Nat} (hj : j < 66) : (pr1 p D E wa wb s).c j = s.c j := by
  unfold pr1
  split
  · rfl
  · show prU p D E s j = s.c j
    unfold prU upI
    rw [if_neg (by omega), if_neg (by omega)]
theorem prK_wet {p : Int} {D E wa wb : Nat} {s : PS} (hD : 66 ≤ D) (hE : 66 ≤ E) {j : Nat} (hj : j < 66) (k : Nat) : (prK p D E wa wb s k).c j = s.c j := by
  induction k with
  | zero => rfl
  | succ k ih => exact (pr1_wet (by omega) (by omega) hj).trans ih
theorem ext4 {R : Array Value} {o : Nat} {a b c d : Value} (h0 : R[o]? = some a) (h1 : R[o + 1]? = some b) (h2 : R[o + 2]? = some c) (h3 : R[o + 3]? = some d) : rowExt R o 4 = #[a, b, c, d] ∧ o + 4 ≤ R.size := by
  have hs := (Array.getElem?_eq_some_iff.1 h3).1
  refine ⟨?_, by omega⟩
  rw [ext_mk (V := fun j => if j = 0 then a else if j = 1 then b else if j = 2 then c else d) (by omega) (fun j hj => ?_)]
  · rfl
  · match j, hj with
    | 0, _ => exact h0
    | 1, _ => exact h1
    | 2, _ => exact h2
    | 3, _ => exact h3
set_option maxHeartbeats 80000000 in
theorem press_any (p B : Nat) (hB : B ≤ p) (c : Nat → Int) (W H : Nat) (W0 : 0 < W) (H0 : 0 < H) (W8 : W ≤ 8) (H8 : H ≤ 8) (hg : GoodP W H 0 ⟨c, 0⟩) (a : Int) (d : Bool) (q : Int) (ha : 1 ≤ a ∧ a ≤ 7) (hq : 1 ≤ q ∧ q ≤ 8) (w : World) (hr : rowOf w p = kc sk 266 c) (hp : p < w.heap.size) (hfp : frOf w p = (0, 0)) :
    Calls Try.prog 67 #[.pointer (some ⟨p, 0, none⟩), .agg #[.int .i8 a, .bool d, .int .i8 q]] w fun e w' => e = .returned (.int .i64 (prF c a d q W H).m) ∧ OneP p B w w' (prF c a d q W H) := by
  have hnb2 : H * W ≤ 64 := Nat.mul_le_mul H8 W8
  have hfc := hg.fc
  have hw0 := hg.w0
  have hh0 := hg.h0
  simp only at hw0 hh0 hfc
  have HGN := Lib.hid (fun n hn => goodPN (a := a) (d := d) (p := q) hq hw0 hh0 W0 W8 H8 hg n hn)
  have HPA := Lib.hid (fun k (hk : k < H * W) hU => pair_at (c := c) (a := a) (d := d) hw0 hh0 W0 W8 H8 hk hU)
  have HCA := Lib.hid (fun k (hk : k < H * W) => cell_at (k := k) W0 W8 H8 hk)
  have HPR := Lib.hid (fun w hr hp => pairs_any p c hfc W H hw0 hh0 W0 H0 W8 H8 a d q ha w hr hp)
  have hlen := selN_le (pairU c a d W) (H * W)
  unfold prF
  obtain ⟨U, hU⟩ : ∃ U, U = pairU c a d W := ⟨_, rfl⟩
  rw [← hU] at HGN HPA HPR hlen ⊢
  obtain ⟨nn, hnn⟩ : ∃ nn, nn = H * W := ⟨_, rfl⟩
  rw [← hnn] at HGN HPA HPR HCA hlen hnb2 ⊢
  have HL := Lib.hid (fun i h k hk => prL_at U a d W nn i h k hk)
  have HCH := Lib.hid (fun i (h : i < selN U nn) => And.intro (chE_at h) (chE_in h))
  obtain ⟨N, hN⟩ : ∃ N, N = selN U nn := ⟨_, rfl⟩
  rw [← hN] at HGN HPR HCH HL hlen ⊢
  clear hU hnn hN hg hw0 hh0
  have hN64 : N ≤ 64 := by omega
  go_enter Try.func67, Try.ntmps67
  go_wp2_with (go_at_call 103; refine (HPR.out _ (by (go_simp <;> (intros; omega))) (by first | omega | (simp <;> omega))).mono ?_; rintro e wk ⟨v, rfl, hown, hbc⟩; have r_hbc := keep_rowA hbc; have f_hbc := keep_frA hbc; have s_hbc := hbc.size; (try simp only [World.size_alloc, World.size_setCell, setRow_size, World.size_drew, size_drewNm] at r_hbc f_hbc s_hbc); obtain ⟨a0, cap0, rfl⟩ := owns_len hown; have HW := Lib.hid hown; clear hown)
  have hwc := hbc.size
  have hpwc : p < wk.heap.size := by first | omega | (simp at hwc; omega)
  have hbxs : w.heap.size < wk.heap.size := by first | omega | (simp at hwc; omega)
  have HBX := Lib.hid (show rowOf wk w.heap.size = #[.int .i8 a, .bool d, .int .i8 q] from by (go_simp <;> (intros; omega)))
  have HBC := Lib.hid (show Below w.heap.size w wk from by repeat' (first | with_reducible exact Below.refl _ _ | with_reducible assumption | with_reducible refine Below.drew ?_ | with_reducible refine Below.drewN ?_ _ | with_reducible refine Below.alloc ?_ ?_ _ | with_reducible refine Below.setCell ?_ ?_ _ | with_reducible refine Below.setRow ?_ ?_ _ | with_reducible refine below_step (by assumption) ?_ ?_ | (show (_ : Nat) ≤ _; first | omega | (simp <;> omega))))
  have HRP := Lib.hid (show rowOf wk p = kc sk 266 c ∧ frOf wk p = (0, 0) from ⟨by (go_simp <;> (intros; omega)), by (go_simp <;> (intros; omega))⟩)
  clear r_hbc f_hbc s_hbc
  go_loopw [17, 5] (fun i s wr => ∃ k : Nat, k ≤ N ∧ i = .int .i64 k ∧ s = .int .i64 (prN q a d W nn U ⟨c, 0⟩ k).m ∧ OneP p B wk wr (prN q a d W nn U ⟨c, 0⟩ k)) (fun i s wr => N - (intOf i).toNat)
  case atStart => exact ⟨0, by omega, rfl, rfl, HRP.out.1, HRP.out.2, Nat.le_refl _, fun b h1 h2 => ⟨rfl, rfl⟩, Below.refl _ _⟩
  case round =>
    obtain ⟨i, hi, rfl, rfl, hrp, hfp, hsz0, hoth, hbl⟩ := hrel
    obtain ⟨wo, rfl⟩ : ∃ wo : World, wo = wr := ⟨_, rfl⟩
    have HO := Lib.hid hoth
    have hrb := (hoth w.heap.size (by omega) hbxs).1.trans HBX.out
    clear hoth
    obtain ⟨st, hst⟩ : ∃ st, st = prN q a d W nn U ⟨c, 0⟩ i := ⟨_, rfl⟩
    have hgd := HGN.out i hi
    rw [← hst] at hrp hgd ⊢
    have hpo : p < wo.heap.size := by omega
    have hbo : w.heap.size < wo.heap.size := by omega
    by_cases hlt : i < N
    · obtain ⟨g, cap, hv, hgb, hgs, hcells⟩ := pairs_somes HW.out (by omega)
      simp only [Value.slice.injEq] at hv
      obtain ⟨rfl, -, rfl⟩ := hv
      have hgp : g ≠ p := by first | omega | (simp at hgb; omega)
      have hgo : g < wo.heap.size := by omega
      obtain ⟨e0, e1, e2⟩ := HCH.out i hlt
      have HST := Lib.hid (show prN q a d W nn U ⟨c, 0⟩ (i + 1) = prC q (chE U nn i % W) (chE U nn i / W) (ptX a d W (chE U nn i)).toNat (ptY a d W (chE U nn i)).toNat st by rw [hst]; rfl)
      obtain ⟨l1, l2, l3, l4⟩ := HL.out i hlt _ e0
      generalize chE U nn i = k at *
      obtain ⟨x2, y2, hX, hY, hx28, hy28, hord⟩ := HPA.out k e1 e2
      obtain ⟨hx8, hy8, -, -⟩ := HCA.out k e1
      rw [hX, hY, Int.toNat_natCast, Int.toNat_natCast] at HST
      rw [hX] at l3
      rw [hY] at l4
      have r1 := hcells _ _ l1
      have r2 := hcells _ _ l2
      have r3 := hcells _ _ l3
      have r4 := hcells _ _ l4
      have hrg := (HO.out g hgp hgs).1
      rw [← hrg] at r1 r2 r3 r4
      have r5 := r4
      rw [show i * 4 + 3 = i * 4 + 2 + 1 from rfl] at r5
      clear l1 l2 l3 l4 hcells hst e0 e2 hX hY hrg
      generalize k % W = x at *
      generalize k / W = y at *
      have hwlt : 2 + y * 8 + x < 2 + y2 * 8 + x2 := by omega
      have hdlt : 66 + y * 24 + x * 3 + 2 < 66 + y2 * 24 + x2 * 3 := by omega
      have hx0i : (0 : Int) ≤ (x : Int) := by omega
      have hx8i : (x : Int) < 8 := by omega
      have hy0i : (0 : Int) ≤ (y : Int) := by omega
      have hy8i : (y : Int) < 8 := by omega
      have hx8j : ¬ ((x : Int) < 0) := by omega
      have hy8j : ¬ ((y : Int) < 0) := by omega
      have hx8k : ¬ (8 ≤ x) := by omega
      have hy8k : ¬ (8 ≤ y) := by omega
      have hX0i : (0 : Int) ≤ (x2 : Int) := by omega
      have hX8i : (x2 : Int) < 8 := by omega
      have hY0i : (0 : Int) ≤ (y2 : Int) := by omega
      have hY8i : (y2 : Int) < 8 := by omega
      have hX8j : ¬ ((x2 : Int) < 0) := by omega
      have hY8j : ¬ ((y2 : Int) < 0) := by omega
      have hX8k : ¬ (8 ≤ x2) := by omega
      have hY8k : ¬ (8 ≤ y2) := by omega
      have hi0 : ¬ ((i : Int) < 0) := by omega
      have hiN : ¬ (N ≤ i) := by omega
      have hskA := sk_wet2 hx8 hy8
      have hskB := sk_wet2 hx28 hy28
      have HGD := Lib.hid hgd
      have ⟨sm1, sm2⟩ := hgd.m0
      clear hgd hord
      obtain ⟨sc, sm⟩ := st
      simp only at hrp sm1 sm2 ⊢
      have HWA := Lib.hid (show ∀ k, k ≤ 3 → GoodP W H (0 + i * 3000 + k * 1000) (prK q (dyeP x y) (dyeP x2 y2) (wetP x y) (wetP x2 y2) ⟨sc, sm⟩ k) from fun k hk => goodPK hq (dyeP_in hx8 hy8) (dyeP_in hx28 hy28) HGD.out k hk)
      have HWET := Lib.hid (And.intro (HWA.out 0 (by omega)).wt (HWA.out 0 (by omega)).fc)
      have hbcs : B ≤ wk.heap.size := by have := HBC.out.size; omega
      obtain ⟨he4, hrs4⟩ := ext4 r1 r2 r3 r4
      obtain ⟨R, hR⟩ : ∃ R, rowOf wo g = R := ⟨_, rfl⟩
      rw [hR] at he4 hrs4 r1 r2 r3 r4 r5
      have HONE := Lib.hid (show OneP p B wk wo ⟨sc, sm⟩ from ⟨hrp, hfp, hsz0, HO.out, hbl⟩)
      have HWX := Lib.hid (fun w hr hp => isWet_any p sc (by have := HWET.out.2; exact this) x y hx8 hy8 w hr hp)
      have HWY := Lib.hid (fun w hr hp => isWet_any p sc (by have := HWET.out.2; exact this) x2 y2 hx28 hy28 w hr hp)
      clear r1 r2 r3 r4 r5
      go_upto_region 5 with fail
      go_cut [8, 9] (fun s8 s9 wx => ∃ ga gb : Nat, s8 = .pointer (some ⟨ga, 0, none⟩) ∧ s9 = .pointer (some ⟨gb, 0, none⟩) ∧ rowOf wx ga = #[.int .i8 x, .int .i8 y] ∧ rowOf wx gb = #[.int .i8 x2, .int .i8 y2] ∧ ga < wx.heap.size ∧ gb < wx.heap.size ∧ wo.heap.size ≤ ga ∧ wo.heap.size ≤ gb ∧ Below wo.heap.size wo wx)
      case first =>
        go_region_held3 (fun w' => rowOf w' wo.heap.size = #[.int .i8 x, .int .i8 y, .int .i8 x2, .int .i8 y2]) (go_simp) (fail)
        all_goals (go_wp2_with fail; go_meet; exact ⟨_, _, rfl, rfl, by (go_simp <;> (intros; omega)), by (go_simp <;> (intros; omega)), (by first | omega | (simp <;> omega)), (by first | omega | (simp <;> omega)), (by first | omega | (simp <;> omega)), (by first | omega | (simp <;> omega)), by repeat' (first | with_reducible exact Below.refl _ _ | with_reducible assumption | with_reducible refine Below.drew ?_ | with_reducible refine Below.drewN ?_ _ | with_reducible refine Below.alloc ?_ ?_ _ | with_reducible refine Below.setCell ?_ ?_ _ | with_reducible refine Below.setRow ?_ ?_ _ | with_reducible refine below_step (by assumption) ?_ ?_ | (show (_ : Nat) ≤ _; first | omega | (simp <;> omega)))⟩)
      case rest =>
        obtain ⟨ga, gb, rfl, rfl, hga, hgb', hgas, hgbs, hga0, hgb0, hbxo⟩ := hcut
        have hgap : ga ≠ p := by omega
        have hgbp : gb ≠ p := by omega
        have hszc := hbxo.size
        have hrpc := (keep_row hbxo hpo).trans hrp
        have hpc0 : p < wc.heap.size := by omega
        obtain ⟨one, hone1⟩ : ∃ b, b = decide (0 < sc (2 + y * 8 + x)) := ⟨_, rfl⟩
        obtain ⟨two, htwo1⟩ : ∃ b, b = decide (0 < sc (2 + y2 * 8 + x2)) := ⟨_, rfl⟩
        rw [← hone1] at HWX
        rw [← htwo1] at HWY
        have H12 := Lib.hid (And.intro hone1 htwo1)
        clear hone1 htwo1
        go_upto_region 6 with fail
        go_cut [10, 11] (fun s10 s11 wy => ∃ ha hb : Nat, s10 = .pointer (some ⟨ha, 0, none⟩) ∧ s11 = .pointer (some ⟨hb, 0, none⟩) ∧ rowOf wy ha = #[.bool one] ∧ rowOf wy hb = #[.bool two] ∧ ha < wy.heap.size ∧ hb < wy.heap.size ∧ wo.heap.size ≤ ha ∧ wo.heap.size ≤ hb ∧ rowOf wy ga = #[.int .i8 x, .int .i8 y] ∧ rowOf wy gb = #[.int .i8 x2, .int .i8 y2] ∧ ga < wy.heap.size ∧ gb < wy.heap.size ∧ Below wo.heap.size wo wy)
        case first =>
          go_region_held3 (fun w' => rowOf w' ga = #[.int .i8 x, .int .i8 y] ∧ rowOf w' gb = #[.int .i8 x2, .int .i8 y2] ∧ rowOf w' p = kc sk 266 sc) (go_simp) (first | (go_at_call 104; with_reducible refine (HWX.out _ ?_ ?_).mono ?_; (focus (go_simp <;> (intros; omega))); (focus (first | omega | (simp <;> omega))); rintro e w1 ⟨rfl, hb1⟩; have r1 := keep_rowA hb1; have f1 := keep_frA hb1; have s1 := hb1.size; (try simp only [World.size_alloc, World.size_setCell, setRow_size, World.size_drew, size_drewNm] at r1 f1 s1)) | (go_at_call 104; with_reducible refine (HWY.out _ ?_ ?_).mono ?_; (focus (go_simp <;> (intros; omega))); (focus (first | omega | (simp <;> omega))); rintro e w1 ⟨rfl, hb1⟩; have r1 := keep_rowA hb1; have f1 := keep_frA hb1; have s1 := hb1.size; (try simp only [World.size_alloc, World.size_setCell, setRow_size, World.size_drew, size_drewNm] at r1 f1 s1)))
          all_goals (go_wp2_with fail; go_meet; exact ⟨_, _, rfl, rfl, by (go_simp <;> (intros; omega)), by (go_simp <;> (intros; omega)), (by first | omega | (simp <;> omega)), (by first | omega | (simp <;> omega)), (by first | omega | (simp <;> omega)), (by first | omega | (simp <;> omega)), by (go_simp <;> (intros; omega)), by (go_simp <;> (intros; omega)), (by first | omega | (simp <;> omega)), (by first | omega | (simp <;> omega)), by repeat' (first | with_reducible exact Below.refl _ _ | with_reducible assumption | with_reducible refine Below.drew ?_ | with_reducible refine Below.drewN ?_ _ | with_reducible refine Below.alloc ?_ ?_ _ | with_reducible refine Below.setCell ?_ ?_ _ | with_reducible refine Below.setRow ?_ ?_ _ | with_reducible refine below_step (by assumption) ?_ ?_ | (show (_ : Nat) ≤ _; first | omega | (simp <;> omega)))⟩)
        case rest =>
          clear hga hgb' hgas hgbs hbxo hszc hrpc hpc0
          obtain ⟨ha, hb, rfl, rfl, hha, hhb, has, hbs, ha0, hb0, hga, hgb2, hgas, hgbs, hbxo⟩ := hcut
          obtain ⟨wy, rfl⟩ : ∃ wy : World, wy = wc := ⟨_, rfl⟩
          have HON3 := Lib.hid (oneP_below HONE.out hpo (by omega) hbxo)
          have hszy := hbxo.size
          have hhap : ha ≠ p := by omega
          have hhbp : hb ≠ p := by omega
          have hnn : ∀ j, j ≤ 3 → (prK q (dyeP x y) (dyeP x2 y2) (wetP x y) (wetP x2 y2) ⟨sc, sm⟩ j).c (2 + y * 8 + x) = sc (2 + y * 8 + x) ∧ (prK q (dyeP x y) (dyeP x2 y2) (wetP x y) (wetP x2 y2) ⟨sc, sm⟩ j).c (2 + y2 * 8 + x2) = sc (2 + y2 * 8 + x2) := fun j hj => ⟨prK_wet (dyeP_in hx8 hy8).1 (dyeP_in hx28 hy28).1 (by omega) j, prK_wet (dyeP_in hx8 hy8).1 (dyeP_in hx28 hy28).1 (by omega) j⟩
          have HNN := Lib.hid hnn
          clear hnn hrp hfp hsz0 hbl hga0 hgb0 ha0 hb0
          go_wp2
          go_loopw [31, 5] (fun v s wx => ∃ j : Nat, j ≤ 3 ∧ v = .int .i64 j ∧ s = .int .i64 (prK q (dyeP x y) (dyeP x2 y2) (wetP x y) (wetP x2 y2) ⟨sc, sm⟩ j).m ∧ OneP p B wk wx (prK q (dyeP x y) (dyeP x2 y2) (wetP x y) (wetP x2 y2) ⟨sc, sm⟩ j) ∧ wy.heap.size ≤ wx.heap.size ∧ rowOf wx ga = #[.int .i8 x, .int .i8 y] ∧ rowOf wx gb = #[.int .i8 x2, .int .i8 y2] ∧ rowOf wx ha = #[.bool one] ∧ rowOf wx hb = #[.bool two]) (fun v s wx => 4 - (intOf v).toNat)
          case atStart => exact ⟨0, by omega, rfl, rfl, HON3.out, Nat.le_refl _, hga, hgb2, hha, hhb⟩
          case round =>
            clear hga hgb2 hha hhb
            obtain ⟨j, hj, rfl, rfl, hon, hszx, hga, hgb2, hha, hhb⟩ := hrel
            have HON := Lib.hid hon
            obtain ⟨hrp, hfp, hsz0, hoth, -⟩ := hon
            have hrb := (hoth w.heap.size (by omega) hbxs).1.trans HBX.out
            clear hoth
            have hpx : p < wr.heap.size := by omega
            have hbx : w.heap.size < wr.heap.size := by omega
            have hgax : ga < wr.heap.size := by omega
            have hgbx : gb < wr.heap.size := by omega
            have hhax : ha < wr.heap.size := by omega
            have hhbx : hb < wr.heap.size := by omega
            have hgk := HWA.out j hj
            obtain ⟨nn1, nn2⟩ := HNN.out j hj
            by_cases hj3 : j < 3
            · have hdj : decide ((j : Int) < 3) = true := decide_eq_true (by omega)
              have hnx : prK q (dyeP x y) (dyeP x2 y2) (wetP x y) (wetP x2 y2) ⟨sc, sm⟩ (j + 1) = pr1 q (dyeP x y + j) (dyeP x2 y2 + j) (2 + y * 8 + x) (2 + y2 * 8 + x2) (prK q (dyeP x y) (dyeP x2 y2) (wetP x y) (wetP x2 y2) ⟨sc, sm⟩ j) := rfl
              generalize prK q (dyeP x y) (dyeP x2 y2) (wetP x y) (wetP x2 y2) ⟨sc, sm⟩ j = t at *
              obtain ⟨cc, mm⟩ := t
              have hdy := dyeP_in hx8 hy8
              have hdy2 := dyeP_in hx28 hy28
              have hv := hgk.dy (dyeP x y + j) (by omega) (by omega)
              have hu := hgk.dy (dyeP x2 y2 + j) (by omega) (by omega)
              have hwA := hgk.wt (2 + y * 8 + x) (by omega) (by omega)
              have hwB := hgk.wt (2 + y2 * 8 + x2) (by omega) (by omega)
              have ⟨tm1, tm2⟩ := hgk.m0
              simp only at hrp hv hu hwA hwB tm1 tm2 nn1 nn2 ⊢
              have hpl := pr1_let (m := mm) (wa := 2 + y * 8 + x) (wb := 2 + y2 * 8 + x2) hq hv hu hwA.1 hwB.1
              rw [nn1, nn2, ← H12.out.1, ← H12.out.2] at hpl
              have hab := abs_in hq hv hu
              have hD1 : dyeP x y + j = 66 + y * 24 + x * 3 + j := rfl
              have hD2 : dyeP x2 y2 + j = 66 + y2 * 24 + x2 * 3 + j := rfl
              have hov := fun w hr hfp hp h1 h1s h2 h2s => goOver1_any p (66 + y * 24 + x * 3 + j) (66 + y2 * 24 + x2 * 3 + j) B hB (by omega) (by omega) (by omega) cc hv hu q hq ha hb one two w hr hfp hp h1 h1s h2 h2s
              have hr01 : 0 ≤ (if letB one two (cc (dyeP x y + j)) (cc (dyeP x2 y2 + j)) = true then absI (mvI q (cc (dyeP x y + j)) (cc (dyeP x2 y2 + j))) else 0) ∧ (if letB one two (cc (dyeP x y + j)) (cc (dyeP x2 y2 + j)) = true then absI (mvI q (cc (dyeP x y + j)) (cc (dyeP x2 y2 + j))) else 0) ≤ 1000 := by split <;> omega
              rw [← hD1, ← hD2] at hov
              rw [← hnx] at hpl
              generalize (if letB one two (cc (dyeP x y + j)) (cc (dyeP x2 y2 + j)) = true then absI (mvI q (cc (dyeP x y + j)) (cc (dyeP x2 y2 + j))) else 0) = r at *
              generalize (if letB one two (cc (dyeP x y + j)) (cc (dyeP x2 y2 + j)) = true then (⟨prU q (dyeP x y + j) (dyeP x2 y2 + j) ⟨cc, 0⟩, 0⟩ : PS) else ⟨cc, 0⟩) = S at *
              rw [hD1, hD2] at hov
              have HOV := Lib.hid hov
              have HPL := Lib.hid hpl
              have ⟨r1, r2⟩ := hr01
              have tm3 : (mm : Int) ≤ 1000000 := by omega
              have hj0i : (0 : Int) ≤ (j : Int) := by omega
              have hj3i : (j : Int) < 3 := by omega
              have hj0j : ¬ ((j : Int) < 0) := by omega
              have hj3k : ¬ (3 ≤ j) := by omega
              clear hov hpl hr01 hab hwA hwB hnx hD1 hD2 hv hu hdy hdy2 nn1 nn2 hgk tm2
              go_wp2
              have hwq : IntKind.i64.wrap (mm + r) = mm + r := IntWalk.i64_in _ (by omega)
              (refine wp_region_held (S := fun w' => rowOf w' (w.heap.size) = #[.int .i8 a, .bool d, .int .i8 q] ∧ rowOf w' (ga) = #[.int .i8 x, .int .i8 y] ∧ rowOf w' (gb) = #[.int .i8 x2, .int .i8 y2]) (by kernel_rfl) ?_); (simp only [World.drew_eq]); (refine wpAnyH_take (i := 0) rfl (by kernel_rfl) (by kernel_rfl) (by kernel_rfl) (fun _ _ _ h => h) (yieldsIf_move rfl rfl) ⟨by go_simp, by go_simp, by go_simp⟩ ?_); (try simp only [Act.put, Act.eval, List.getElem_toArray, List.getElem_cons_zero, List.getElem_cons_succ, List.setIfInBounds_toArray, List.set_cons_zero, List.set_cons_succ, Array.getD_eq_getD_getElem?, List.getElem?_toArray, List.getElem?_cons_zero, List.getElem?_cons_succ, Option.getD_some]); (refine wpAnyH_take (i := 1) rfl (by kernel_rfl) (by kernel_rfl) (by kernel_rfl) (fun _ _ _ h => h) (yieldsIf_move rfl rfl) ⟨by go_simp, by go_simp, by go_simp⟩ ?_); (try simp only [Act.put, Act.eval, List.getElem_toArray, List.getElem_cons_zero, List.getElem_cons_succ, List.setIfInBounds_toArray, List.set_cons_zero, List.set_cons_succ, Array.getD_eq_getD_getElem?, List.getElem?_toArray, List.getElem?_cons_zero, List.getElem?_cons_succ, Option.getD_some]); (refine wpAnyH_take (i := 2) (v := .pointer (some ⟨ga, 1, none⟩)) rfl (by kernel_rfl) (by kernel_rfl) (by kernel_rfl) (fun _ _ _ h => h) (.inl ⟨by first | (simp [Region.wanted]; done) | rfl | simp [Region.wanted, yielded], fun w _ => by unfold execOp; go_simp⟩) ⟨by go_simp, by go_simp, by go_simp⟩ ?_); (try simp only [Act.put, Act.eval, List.getElem_toArray, List.getElem_cons_zero, List.getElem_cons_succ, List.setIfInBounds_toArray, List.set_cons_zero, List.set_cons_succ, Array.getD_eq_getD_getElem?, List.getElem?_toArray, List.getElem?_cons_zero, List.getElem?_cons_succ, Option.getD_some]); (refine wpAnyH_take (i := 3) (v := .int .i8 y) rfl (by kernel_rfl) (by kernel_rfl) (by kernel_rfl) (fun _ _ _ h => h) (.inl ⟨by first | (simp [Region.wanted]; done) | rfl | simp [Region.wanted, yielded], fun w ⟨h0, h1, h2⟩ => by unfold execOp; go_simp⟩) ⟨by go_simp, by go_simp, by go_simp⟩ ?_); (try simp only [Act.put, Act.eval, List.getElem_toArray, List.getElem_cons_zero, List.getElem_cons_succ, List.setIfInBounds_toArray, List.set_cons_zero, List.set_cons_succ, Array.getD_eq_getD_getElem?, List.getElem?_toArray, List.getElem?_cons_zero, List.getElem?_cons_succ, Option.getD_some]); (refine wpAnyH_take (i := 4) (v := .pointer (some ⟨ga, 0, none⟩)) rfl (by kernel_rfl) (by kernel_rfl) (by kernel_rfl) (fun _ _ _ h => h) (.inl ⟨by first | (simp [Region.wanted]; done) | rfl | simp [Region.wanted, yielded], fun w _ => by unfold execOp; go_simp⟩) ⟨by go_simp, by go_simp, by go_simp⟩ ?_); (try simp only [Act.put, Act.eval, List.getElem_toArray, List.getElem_cons_zero, List.getElem_cons_succ, List.setIfInBounds_toArray, List.set_cons_zero, List.set_cons_succ, Array.getD_eq_getD_getElem?, List.getElem?_toArray, List.getElem?_cons_zero, List.getElem?_cons_succ, Option.getD_some]); (refine wpAnyH_take (i := 5) (v := .int .i8 x) rfl (by kernel_rfl) (by kernel_rfl) (by kernel_rfl) (fun _ _ _ h => h) (.inl ⟨by first | (simp [Region.wanted]; done) | rfl | simp [Region.wanted, yielded], fun w ⟨h0, h1, h2⟩ => by unfold execOp; go_simp⟩) ⟨by go_simp, by go_simp, by go_simp⟩ ?_); (try simp only [Act.put, Act.eval, List.getElem_toArray, List.getElem_cons_zero, List.getElem_cons_succ, List.setIfInBounds_toArray, List.set_cons_zero, List.set_cons_succ, Array.getD_eq_getD_getElem?, List.getElem?_toArray, List.getElem?_cons_zero, List.getElem?_cons_succ, Option.getD_some]); (refine wpAnyH_take (i := 6) rfl (by kernel_rfl) (by kernel_rfl) (by kernel_rfl) (fun _ _ _ h => h) (yieldsIf_move rfl rfl) ⟨by go_simp, by go_simp, by go_simp⟩ ?_); (try simp only [Act.put, Act.eval, List.getElem_toArray, List.getElem_cons_zero, List.getElem_cons_succ, List.setIfInBounds_toArray, List.set_cons_zero, List.set_cons_succ, Array.getD_eq_getD_getElem?, List.getElem?_toArray, List.getElem?_cons_zero, List.getElem?_cons_succ, Option.getD_some]); (refine wpAnyH_take (i := 7) (v := .pointer (some ⟨p, 0, none⟩)) rfl (by kernel_rfl) (by kernel_rfl) (by kernel_rfl) (fun _ _ _ h => h) (.inl ⟨by first | (simp [Region.wanted]; done) | rfl | simp [Region.wanted, yielded], fun w _ => by unfold execOp; go_simp⟩) ⟨by go_simp, by go_simp, by go_simp⟩ ?_); (try simp only [Act.put, Act.eval, List.getElem_toArray, List.getElem_cons_zero, List.getElem_cons_succ, List.setIfInBounds_toArray, List.set_cons_zero, List.set_cons_succ, Array.getD_eq_getD_getElem?, List.getElem?_toArray, List.getElem?_cons_zero, List.getElem?_cons_succ, Option.getD_some]); (refine wpAnyH_take (i := 8) (v := .pointer (some ⟨p, 66, none⟩)) rfl (by kernel_rfl) (by kernel_rfl) (by kernel_rfl) (fun _ _ _ h => h) (.inl ⟨by first | (simp [Region.wanted]; done) | rfl | simp [Region.wanted, yielded], fun w _ => by unfold execOp; go_simp⟩) ⟨by go_simp, by go_simp, by go_simp⟩ ?_); (try simp only [Act.put, Act.eval, List.getElem_toArray, List.getElem_cons_zero, List.getElem_cons_succ, List.setIfInBounds_toArray, List.set_cons_zero, List.set_cons_succ, Array.getD_eq_getD_getElem?, List.getElem?_toArray, List.getElem?_cons_zero, List.getElem?_cons_succ, Option.getD_some]); (refine wpAnyH_take (i := 9) (v := .pointer (some ⟨p, 66 + y * 24, none⟩)) rfl (by kernel_rfl) (by kernel_rfl) (by kernel_rfl) (fun _ _ _ h => h) (.inl ⟨by first | (simp [Region.wanted]; done) | rfl | simp [Region.wanted, yielded], fun w _ => by unfold execOp; go_simp⟩) ⟨by go_simp, by go_simp, by go_simp⟩ ?_); (try simp only [Act.put, Act.eval, List.getElem_toArray, List.getElem_cons_zero, List.getElem_cons_succ, List.setIfInBounds_toArray, List.set_cons_zero, List.set_cons_succ, Array.getD_eq_getD_getElem?, List.getElem?_toArray, List.getElem?_cons_zero, List.getElem?_cons_succ, Option.getD_some]); (refine wpAnyH_take (i := 10) (v := .pointer (some ⟨p, 66 + y * 24 + x * 3, none⟩)) rfl (by kernel_rfl) (by kernel_rfl) (by kernel_rfl) (fun _ _ _ h => h) (.inl ⟨by first | (simp [Region.wanted]; done) | rfl | simp [Region.wanted, yielded], fun w _ => by unfold execOp; go_simp⟩) ⟨by go_simp, by go_simp, by go_simp⟩ ?_); (try simp only [Act.put, Act.eval, List.getElem_toArray, List.getElem_cons_zero, List.getElem_cons_succ, List.setIfInBounds_toArray, List.set_cons_zero, List.set_cons_succ, Array.getD_eq_getD_getElem?, List.getElem?_toArray, List.getElem?_cons_zero, List.getElem?_cons_succ, Option.getD_some]); (refine wpAnyH_take (i := 11) (v := .pointer (some ⟨p, 66 + y * 24 + x * 3 + j, none⟩)) rfl (by kernel_rfl) (by kernel_rfl) (by kernel_rfl) (fun _ _ _ h => h) (.inl ⟨by first | (simp [Region.wanted]; done) | rfl | simp [Region.wanted, yielded], fun w _ => by unfold execOp; go_simp⟩) ⟨by go_simp, by go_simp, by go_simp⟩ ?_); (try simp only [Act.put, Act.eval, List.getElem_toArray, List.getElem_cons_zero, List.getElem_cons_succ, List.setIfInBounds_toArray, List.set_cons_zero, List.set_cons_succ, Array.getD_eq_getD_getElem?, List.getElem?_toArray, List.getElem?_cons_zero, List.getElem?_cons_succ, Option.getD_some]); (refine wpAnyH_take (i := 12) rfl (by kernel_rfl) (by kernel_rfl) (by kernel_rfl) (fun _ _ _ h => h) (yieldsIf_move rfl rfl) ⟨by go_simp, by go_simp, by go_simp⟩ ?_); (try simp only [Act.put, Act.eval, List.getElem_toArray, List.getElem_cons_zero, List.getElem_cons_succ, List.setIfInBounds_toArray, List.set_cons_zero, List.set_cons_succ, Array.getD_eq_getD_getElem?, List.getElem?_toArray, List.getElem?_cons_zero, List.getElem?_cons_succ, Option.getD_some]); (refine wpAnyH_take (i := 13) (v := .pointer (some ⟨gb, 1, none⟩)) rfl (by kernel_rfl) (by kernel_rfl) (by kernel_rfl) (fun _ _ _ h => h) (.inl ⟨by first | (simp [Region.wanted]; done) | rfl | simp [Region.wanted, yielded], fun w _ => by unfold execOp; go_simp⟩) ⟨by go_simp, by go_simp, by go_simp⟩ ?_); (try simp only [Act.put, Act.eval, List.getElem_toArray, List.getElem_cons_zero, List.getElem_cons_succ, List.setIfInBounds_toArray, List.set_cons_zero, List.set_cons_succ, Array.getD_eq_getD_getElem?, List.getElem?_toArray, List.getElem?_cons_zero, List.getElem?_cons_succ, Option.getD_some]); (refine wpAnyH_take (i := 14) (v := .int .i8 y2) rfl (by kernel_rfl) (by kernel_rfl) (by kernel_rfl) (fun _ _ _ h => h) (.inl ⟨by first | (simp [Region.wanted]; done) | rfl | simp [Region.wanted, yielded], fun w ⟨h0, h1, h2⟩ => by unfold execOp; go_simp⟩) ⟨by go_simp, by go_simp, by go_simp⟩ ?_); (try simp only [Act.put, Act.eval, List.getElem_toArray, List.getElem_cons_zero, List.getElem_cons_succ, List.setIfInBounds_toArray, List.set_cons_zero, List.set_cons_succ, Array.getD_eq_getD_getElem?, List.getElem?_toArray, List.getElem?_cons_zero, List.getElem?_cons_succ, Option.getD_some]); (refine wpAnyH_take (i := 15) (v := .pointer (some ⟨gb, 0, none⟩)) rfl (by kernel_rfl) (by kernel_rfl) (by kernel_rfl) (fun _ _ _ h => h) (.inl ⟨by first | (simp [Region.wanted]; done) | rfl | simp [Region.wanted, yielded], fun w _ => by unfold execOp; go_simp⟩) ⟨by go_simp, by go_simp, by go_simp⟩ ?_); (try simp only [Act.put, Act.eval, List.getElem_toArray, List.getElem_cons_zero, List.getElem_cons_succ, List.setIfInBounds_toArray, List.set_cons_zero, List.set_cons_succ, Array.getD_eq_getD_getElem?, List.getElem?_toArray, List.getElem?_cons_zero, List.getElem?_cons_succ, Option.getD_some]); (refine wpAnyH_take (i := 16) (v := .int .i8 x2) rfl (by kernel_rfl) (by kernel_rfl) (by kernel_rfl) (fun _ _ _ h => h) (.inl ⟨by first | (simp [Region.wanted]; done) | rfl | simp [Region.wanted, yielded], fun w ⟨h0, h1, h2⟩ => by unfold execOp; go_simp⟩) ⟨by go_simp, by go_simp, by go_simp⟩ ?_); (try simp only [Act.put, Act.eval, List.getElem_toArray, List.getElem_cons_zero, List.getElem_cons_succ, List.setIfInBounds_toArray, List.set_cons_zero, List.set_cons_succ, Array.getD_eq_getD_getElem?, List.getElem?_toArray, List.getElem?_cons_zero, List.getElem?_cons_succ, Option.getD_some]); (refine wpAnyH_take (i := 17) rfl (by kernel_rfl) (by kernel_rfl) (by kernel_rfl) (fun _ _ _ h => h) (yieldsIf_move rfl rfl) ⟨by go_simp, by go_simp, by go_simp⟩ ?_); (try simp only [Act.put, Act.eval, List.getElem_toArray, List.getElem_cons_zero, List.getElem_cons_succ, List.setIfInBounds_toArray, List.set_cons_zero, List.set_cons_succ, Array.getD_eq_getD_getElem?, List.getElem?_toArray, List.getElem?_cons_zero, List.getElem?_cons_succ, Option.getD_some]); (refine wpAnyH_take (i := 18) (v := .pointer (some ⟨p, 0, none⟩)) rfl (by kernel_rfl) (by kernel_rfl) (by kernel_rfl) (fun _ _ _ h => h) (.inl ⟨by first | (simp [Region.wanted]; done) | rfl | simp [Region.wanted, yielded], fun w _ => by unfold execOp; go_simp⟩) ⟨by go_simp, by go_simp, by go_simp⟩ ?_); (try simp only [Act.put, Act.eval, List.getElem_toArray, List.getElem_cons_zero, List.getElem_cons_succ, List.setIfInBounds_toArray, List.set_cons_zero, List.set_cons_succ, Array.getD_eq_getD_getElem?, List.getElem?_toArray, List.getElem?_cons_zero, List.getElem?_cons_succ, Option.getD_some]); (refine wpAnyH_take (i := 19) (v := .pointer (some ⟨p, 66, none⟩)) rfl (by kernel_rfl) (by kernel_rfl) (by kernel_rfl) (fun _ _ _ h => h) (.inl ⟨by first | (simp [Region.wanted]; done) | rfl | simp [Region.wanted, yielded], fun w _ => by unfold execOp; go_simp⟩) ⟨by go_simp, by go_simp, by go_simp⟩ ?_); (try simp only [Act.put, Act.eval, List.getElem_toArray, List.getElem_cons_zero, List.getElem_cons_succ, List.setIfInBounds_toArray, List.set_cons_zero, List.set_cons_succ, Array.getD_eq_getD_getElem?, List.getElem?_toArray, List.getElem?_cons_zero, List.getElem?_cons_succ, Option.getD_some]); (refine wpAnyH_take (i := 20) (v := .pointer (some ⟨p, 66 + y2 * 24, none⟩)) rfl (by kernel_rfl) (by kernel_rfl) (by kernel_rfl) (fun _ _ _ h => h) (.inl ⟨by first | (simp [Region.wanted]; done) | rfl | simp [Region.wanted, yielded], fun w _ => by unfold execOp; go_simp⟩) ⟨by go_simp, by go_simp, by go_simp⟩ ?_); (try simp only [Act.put, Act.eval, List.getElem_toArray, List.getElem_cons_zero, List.getElem_cons_succ, List.setIfInBounds_toArray, List.set_cons_zero, List.set_cons_succ, Array.getD_eq_getD_getElem?, List.getElem?_toArray, List.getElem?_cons_zero, List.getElem?_cons_succ, Option.getD_some]); (refine wpAnyH_take (i := 21) (v := .pointer (some ⟨p, 66 + y2 * 24 + x2 * 3, none⟩)) rfl (by kernel_rfl) (by kernel_rfl) (by kernel_rfl) (fun _ _ _ h => h) (.inl ⟨by first | (simp [Region.wanted]; done) | rfl | simp [Region.wanted, yielded], fun w _ => by unfold execOp; go_simp⟩) ⟨by go_simp, by go_simp, by go_simp⟩ ?_); (try simp only [Act.put, Act.eval, List.getElem_toArray, List.getElem_cons_zero, List.getElem_cons_succ, List.setIfInBounds_toArray, List.set_cons_zero, List.set_cons_succ, Array.getD_eq_getD_getElem?, List.getElem?_toArray, List.getElem?_cons_zero, List.getElem?_cons_succ, Option.getD_some]); (refine wpAnyH_take (i := 22) (v := .pointer (some ⟨p, 66 + y2 * 24 + x2 * 3 + j, none⟩)) rfl (by kernel_rfl) (by kernel_rfl) (by kernel_rfl) (fun _ _ _ h => h) (.inl ⟨by first | (simp [Region.wanted]; done) | rfl | simp [Region.wanted, yielded], fun w _ => by unfold execOp; go_simp⟩) ⟨by go_simp, by go_simp, by go_simp⟩ ?_); (try simp only [Act.put, Act.eval, List.getElem_toArray, List.getElem_cons_zero, List.getElem_cons_succ, List.setIfInBounds_toArray, List.set_cons_zero, List.set_cons_succ, Array.getD_eq_getD_getElem?, List.getElem?_toArray, List.getElem?_cons_zero, List.getElem?_cons_succ, Option.getD_some]); (refine wpAnyH_take (i := 23) (v := .pointer (some ⟨w.heap.size, 2, none⟩)) rfl (by kernel_rfl) (by kernel_rfl) (by kernel_rfl) (fun _ _ _ h => h) (.inl ⟨by first | (simp [Region.wanted]; done) | rfl | simp [Region.wanted, yielded], fun w _ => by unfold execOp; go_simp⟩) ⟨by go_simp, by go_simp, by go_simp⟩ ?_); (try simp only [Act.put, Act.eval, List.getElem_toArray, List.getElem_cons_zero, List.getElem_cons_succ, List.setIfInBounds_toArray, List.set_cons_zero, List.set_cons_succ, Array.getD_eq_getD_getElem?, List.getElem?_toArray, List.getElem?_cons_zero, List.getElem?_cons_succ, Option.getD_some]); (refine wpAnyH_take (i := 24) (v := .int .i8 q) rfl (by kernel_rfl) (by kernel_rfl) (by kernel_rfl) (fun _ _ _ h => h) (.inl ⟨by first | (simp [Region.wanted]; done) | rfl | simp [Region.wanted, yielded], fun w ⟨h0, h1, h2⟩ => by unfold execOp; go_simp⟩) ⟨by go_simp, by go_simp, by go_simp⟩ ?_); (try simp only [Act.put, Act.eval, List.getElem_toArray, List.getElem_cons_zero, List.getElem_cons_succ, List.setIfInBounds_toArray, List.set_cons_zero, List.set_cons_succ, Array.getD_eq_getD_getElem?, List.getElem?_toArray, List.getElem?_cons_zero, List.getElem?_cons_succ, Option.getD_some]); (refine wpAnyH_take (i := 25) (v := .func (.func 106) #[] #[.pointer (some ⟨ha, 0, none⟩), .pointer (some ⟨hb, 0, none⟩)]) rfl (by kernel_rfl) (by kernel_rfl) (by kernel_rfl) (fun _ _ _ h => h) (.inl ⟨by first | (simp [Region.wanted]; done) | rfl | simp [Region.wanted, yielded], fun w _ => by unfold execOp; go_simp⟩) ⟨by go_simp, by go_simp, by go_simp⟩ ?_); (try simp only [Act.put, Act.eval, List.getElem_toArray, List.getElem_cons_zero, List.getElem_cons_succ, List.setIfInBounds_toArray, List.set_cons_zero, List.set_cons_succ, Array.getD_eq_getD_getElem?, List.getElem?_toArray, List.getElem?_cons_zero, List.getElem?_cons_succ, Option.getD_some]); (refine wpAnyH_one (i := 26) (by kernel_rfl) rfl rfl ?_); (go_simp); (first | (go_at_call 105; refine (HOV.out _ (by (go_simp <;> (intros; omega))) (by (go_simp <;> (intros; omega))) (by first | omega | (simp <;> omega)) (by (go_simp <;> (intros; omega))) (by first | omega | (simp <;> omega)) (by (go_simp <;> (intros; omega))) (by first | omega | (simp <;> omega))).mono ?_; rintro e w1 ⟨rfl, ho1⟩; have k1 := (ho1.2.2.2.1 ga hgap hgax).1.trans hga; have k2 := (ho1.2.2.2.1 gb hgbp hgbx).1.trans hgb2; have k3 := (ho1.2.2.2.1 w.heap.size (by omega) hbx).1.trans hrb; have HO1 := Lib.hid ho1; clear ho1)); (refine ⟨⟨by go_simp, by go_simp, by go_simp⟩, ?_⟩); (try simp only [Act.put, Act.eval, List.getElem_toArray, List.getElem_cons_zero, List.getElem_cons_succ, List.setIfInBounds_toArray, List.set_cons_zero, List.set_cons_succ, Array.getD_eq_getD_getElem?, List.getElem?_toArray, List.getElem?_cons_zero, List.getElem?_cons_succ, Option.getD_some]); (refine wpAnyH_take (i := 27) (v := .int .i64 (mm + r)) rfl (by kernel_rfl) (by kernel_rfl) (by kernel_rfl) (fun _ _ _ h => h) (.inl ⟨by first | (simp [Region.wanted]; done) | rfl | simp [Region.wanted, yielded], fun w _ => by unfold execOp; go_simp⟩) ⟨by go_simp, by go_simp, by go_simp⟩ ?_); (try simp only [Act.put, Act.eval, List.getElem_toArray, List.getElem_cons_zero, List.getElem_cons_succ, List.setIfInBounds_toArray, List.set_cons_zero, List.set_cons_succ, Array.getD_eq_getD_getElem?, List.getElem?_toArray, List.getElem?_cons_zero, List.getElem?_cons_succ, Option.getD_some]); (refine wpAnyH_take (i := 28) rfl (by kernel_rfl) (by kernel_rfl) (by kernel_rfl) (fun _ _ _ h => h) (yieldsIf_assign rfl rfl) ⟨by go_simp, by go_simp, by go_simp⟩ ?_); (try simp only [Act.put, Act.eval, List.getElem_toArray, List.getElem_cons_zero, List.getElem_cons_succ, List.setIfInBounds_toArray, List.set_cons_zero, List.set_cons_succ, Array.getD_eq_getD_getElem?, List.getElem?_toArray, List.getElem?_cons_zero, List.getElem?_cons_succ, Option.getD_some]); (refine wpAnyH_done (by kernel_rfl) ?_ _)
              go_wp2
              go_roundw
              case rel => first | exact ⟨j + 1, by omega, by go_num, by rw [HPL.out.2], oneP_congr (oneP_trans (oneP_drew HON.out) HO1.out) HPL.out.1, Nat.le_trans hszx HO1.out.2.2.1, (HO1.out.2.2.2.1 ga hgap hgax).1.trans hga, (HO1.out.2.2.2.1 gb hgbp hgbx).1.trans hgb2, (HO1.out.2.2.2.1 ha hhap hhax).1.trans hha, (HO1.out.2.2.2.1 hb hhbp hhbx).1.trans hhb⟩ | ((repeat (with_reducible apply Exists.intro)); refine And.intro ?_ ?_; rotate_left; focus ((repeat' (with_reducible apply And.intro)) <;> rfl); exact ⟨j + 1, by omega, by go_num, by rw [HPL.out.2], oneP_congr (oneP_trans (oneP_drew HON.out) HO1.out) HPL.out.1, Nat.le_trans hszx HO1.out.2.2.1, (HO1.out.2.2.2.1 ga hgap hgax).1.trans hga, (HO1.out.2.2.2.1 gb hgbp hgbx).1.trans hgb2, (HO1.out.2.2.2.1 ha hhap hhax).1.trans hha, (HO1.out.2.2.2.1 hb hhbp hhbx).1.trans hhb⟩)
              case measure => simp [intOf]; omega
            · have hje : j = 3 := by omega
              subst hje
              have hpc : prC q x y x2 y2 ⟨sc, sm⟩ = prW q (wetP x y) (wetP x2 y2) (prK q (dyeP x y) (dyeP x2 y2) (wetP x y) (wetP x2 y2) ⟨sc, sm⟩ 3) := rfl
              generalize prK q (dyeP x y) (dyeP x2 y2) (wetP x y) (wetP x2 y2) ⟨sc, sm⟩ 3 = t at *
              obtain ⟨cc, mm⟩ := t
              have hwA := hgk.wt (2 + y * 8 + x) (by omega) (by omega)
              have hwB := hgk.wt (2 + y2 * 8 + x2) (by omega) (by omega)
              simp only at hrp hwA hwB ⊢
              have HOV := Lib.hid (fun w hr hfp hp => goOver2_any p (2 + y * 8 + x) (2 + y2 * 8 + x2) B hB (by omega) (by omega) (by omega) cc hwA hwB q hq w hr hfp hp)
              have HPC := Lib.hid (show (prC q x y x2 y2 ⟨sc, sm⟩).m = mm ∧ kc sk 266 (prU q (2 + y * 8 + x) (2 + y2 * 8 + x2) ⟨cc, 0⟩) = kc sk 266 (prC q x y x2 y2 ⟨sc, sm⟩).c by rw [hpc]; exact ⟨rfl, rfl⟩)
              clear hpc hgk hwA hwB nn1 nn2
              go_wp2
              refine wp_region_still_tail 20 (by kernel_rfl) (by kernel_rfl) ?_
              simp only [List.take_succ_cons, List.take_zero, List.drop_succ_cons, List.drop_zero]
              change wpStill _ _ (World.drew _) _ _ _
              repeat still_step
              refine wpStill_nil ?_
              change wpList _ _ _ _ _ (World.drew _)
              go_wp2_with (go_at_call 105; refine (HOV.out _ (by (go_simp <;> (intros; omega))) (by (go_simp <;> (intros; omega))) (by first | omega | (simp <;> omega))).mono ?_; rintro e w1 ⟨rfl, ho1⟩; have HO1 := Lib.hid ho1; clear ho1)
              go_roundw
              case rel => first | exact ⟨i + 1, by omega, by go_num, by rw [HST.out, HPC.out.1], by rw [HST.out]; exact oneP_congr (oneP_trans (oneP_drew HON.out) HO1.out) HPC.out.2⟩ | ((repeat (with_reducible apply Exists.intro)); refine And.intro ?_ ?_; rotate_left; focus ((repeat' (with_reducible apply And.intro)) <;> rfl); exact ⟨i + 1, by omega, by go_num, by rw [HST.out, HPC.out.1], by rw [HST.out]; exact oneP_congr (oneP_trans (oneP_drew HON.out) HO1.out) HPC.out.2⟩)
              case measure => simp [intOf]; omega
    · have hie : i = N := by omega
      subst hie
      subst hst
      go_wp2
      go_ret
      exact ⟨rfl, hrp, hfp, by have := HBC.out.size; omega, fun b h1 h2 => ⟨(HO.out b h1 (by omega)).1.trans (keep_row HBC.out h2), (HO.out b h1 (by omega)).2.trans (keep_fr HBC.out h2)⟩, below_trans_le HBC.out hbl (by omega)⟩
end Go.Proofs.Ytbnhhjjhjjmmjaa
