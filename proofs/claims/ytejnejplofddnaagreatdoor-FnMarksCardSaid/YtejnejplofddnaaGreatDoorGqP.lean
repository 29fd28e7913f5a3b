/- Several texts in one: MadeS MadeA DrawA. -/
import Derived.Test.YtejnejplofddnaaGreatDoorDrawS
import Derived.Test.YtejnejplofddnaaGreatDoorGqO
import Derived.BigQuiet
import Derived.Deep.DeepCutAuto
/- The marks that are drawn: the walk. Written by gen_mades.py. -/
namespace Go.Proofs.YtejnejplofddnaaGreatDoor
open Go.RowKit
set_option linter.unusedVariables false
set_option linter.unusedSimpArgs false
set_option maxRecDepth 100000
def appG (ts : Array TypeId) (ty : TypeId) (args : Array Value) : Sem Value := Builtin.append_ ts ty args
@[go_sem ↓] theorem toAppG (ts : Array TypeId) (ty : TypeId) (args : Array Value) : Builtin.append_ ts ty args = appG ts ty args := rfl
theorem MksAt.below {w w' : World} {B W : Nat} {v : Value} {Ms : List (Int × Value × List Nat)} (h : MksAt w B W v Ms) (hb : Below w.heap.size w w') : MksAt w' B W v Ms := ⟨owns_below h.1 hb, fun x hx => owns_below (h.2 x hx) hb⟩
theorem MksAt.src {w w' : World} {B W p : Nat} {R : Array Value} {v : Value} {Ms : List (Int × Value × List Nat)} (h : MksAt w B W v Ms) (hs : SrcTo p R w w') (hp : p < B) : MksAt w' B W v Ms := ⟨hs.owns h.1 hp, fun x hx => hs.owns (h.2 x hx) hp⟩
set_option maxHeartbeats 16000000 in
theorem l06Made_any (B p q : Nat) (a : Option Addr) (len cap t : Nat) (sd : Int) (c : Nat → Int) (hfc : FitSheet c) (W H : Nat) (hW : c 0 = W) (hH : c 1 = H) (W0 : 0 < W) (H0 : 0 < H) (W5 : W ≤ 5) (H5 : H ≤ 5) (ht : t ≤ 1000000) (w : World) (hB : B ≤ p) (hc : CodeIn B w a len) (hr : rowOf w p = srcR a len cap t sd) (hf : frOf w p = (0, 0)) (hp : p < w.heap.size) (hrq : rowOf w q = kc sk 266 c) (hqp : q < p) :
    Calls Tryz.prog 39 #[.pointer (some ⟨p, 0, none⟩), .pointer (some ⟨q, 0, none⟩), .int .i64 4] w fun e w' => ∃ v Ms, e = .returned v ∧ MksAt w' w.heap.size W v Ms ∧ Ms.length ≤ 4 ∧ (∀ x ∈ Ms, GoodM c W (H * W) x) ∧ Below p w w' := by
  obtain ⟨i0, z0, hi0, hz0, hs0, hb0, hc0⟩ := spot_info
  obtain ⟨i1, z1, hi1, hz1, hs1, hb1, hc1⟩ := mark_info
  have HC := Lib.hid hc
  have HP := Lib.hid (fun t sd n w2 ht hn hc hr hf hp => pick_any B p a len cap t sd n ht hn w2 hB hc hr hf hp)
  have HSP := Lib.hid (fun w5 h1 h2 => l01Spots_any q c hfc W H hW hH (by omega) (by omega) w5 h1 h2)
  have hn0 : 0 < H * W := Nat.mul_pos H0 W0
  have hn25 : H * W ≤ 25 := Nat.le_trans (Nat.mul_le_mul H5 W5) (by decide)
  clear hc
  go_enter Tryz.func39, Tryz.ntmps39
  go_upto_region 4 with (go_at_call 84; refine (HSP.out _ (by (go_simp <;> (intros; omega))) (by first | omega | (simp <;> omega))).mono ?_; rintro e w5 ⟨v, rfl, hown, hb5⟩; obtain ⟨g, cap2, rfl, hg, hgs, hcells⟩ := owns_some hown hn0)
  have HCL := Lib.hid hcells
  have HA5 := Lib.hid (owns_below (World.ownsRow.alloc (owns_emptyW w 51 2) (.cells #[] 59)) hb5)
  simp only [World.size_alloc] at hb5 hg
  have hszb : w.heap.size + 2 ≤ w5.heap.size := by have := hb5.size; simp at this; omega
  have hrp5 : rowOf w5 p = srcR a len cap t sd := by rw [keep_row hb5 (by omega)]; (go_simp <;> (intros; omega))
  have hfp5 : frOf w5 p = (0, 0) := by rw [keep_fr hb5 (by omega)]; (go_simp <;> (intros; omega))
  have hrq5 : rowOf w5 q = kc sk 266 c := by rw [keep_row hb5 (by omega)]; (go_simp <;> (intros; omega))
  have hbp5 : Below p w w5 := by repeat' (first | with_reducible exact Below.refl _ _ | with_reducible assumption | with_reducible refine Below.drew ?_ | with_reducible refine Below.drewN ?_ _ | with_reducible refine Below.alloc ?_ ?_ _ | with_reducible refine Below.setCell ?_ ?_ _ | with_reducible refine Below.setRow ?_ ?_ _ | with_reducible refine below_step (by assumption) ?_ ?_ | (show (_ : Nat) ≤ _; first | omega | (simp <;> omega)))
  clear hown hcells HSP hr hf hrq hb5
  obtain ⟨N, hN⟩ : ∃ N, H * W = N := ⟨_, rfl⟩
  rw [hN] at HCL hn0 hn25 ⊢
  have hHN : N ≤ H * W := by omega
  go_wp2
  go_loopw [10, 8] (fun z u wr => ∃ k gf cf : Nat, k ≤ N ∧ z = .int .i64 k ∧ u = .slice (some ⟨gf, 0, none⟩) (frL c W k).length cf ∧ OwnZ wr w5.heap.size 59 2 (.slice (some ⟨gf, 0, none⟩) (frL c W k).length cf) (frL c W k).length (spL W (frL c W k)) ∧ Below w5.heap.size w5 wr) (fun z u wr => N + 1 - (intOf z).toNat)
  case atStart => exact ⟨0, w.heap.size + 1, 0, by omega, rfl, rfl, .inr ⟨rfl, rfl, _, rfl⟩, by repeat' (first | with_reducible exact Below.refl _ _ | with_reducible assumption | with_reducible refine Below.drew ?_ | with_reducible refine Below.drewN ?_ _ | with_reducible refine Below.alloc ?_ ?_ _ | with_reducible refine Below.setCell ?_ ?_ _ | with_reducible refine Below.setRow ?_ ?_ _ | with_reducible refine below_step (by assumption) ?_ ?_ | (show (_ : Nat) ≤ _; first | omega | (simp <;> omega)))⟩
  case round =>
    obtain ⟨k, gf, cf, hk, rfl, rfl, hz, hb⟩ := hrel
    have hszr := hb.size
    have HZ := Lib.hid hz
    clear hz
    by_cases hlt : k < N
    · obtain ⟨c1, c2⟩ := spots_drop W N k hlt
      have e1 := HCL.out _ _ c1
      have e2 := HCL.out _ _ c2
      rw [← keep_row hb hgs] at e1 e2
      have hrq := (keep_row hb (by omega)).trans hrq5
      have hyH : k / W < H := (Nat.div_lt_iff_lt_mul W0).2 (by omega)
      have hxW : k % W < W := Nat.mod_lt k W0
      have hx8 : k % W < 8 := by omega
      have hy8 : k / W < 8 := by omega
      have hlt2 : (k : Int) < (N : Int) := by omega
      have hgw : g < wr.heap.size := by omega
      have hqw : q < wr.heap.size := by omega
      have hw1 : IntKind.i64.wrap ((k : Int) + 1) = ((k + 1 : Nat) : Int) := by rw [IntWalk.i64_in _ (by omega)]; rfl
      have hfl := frL_len c W k
      obtain ⟨R, hR⟩ : ∃ R, rowOf wr g = R := ⟨_, rfl⟩
      rw [hR] at e1 e2
      have HX0 := fun w h1 h2 => l01Waxed_any q c hfc (k % W) (k / W) hx8 hy8 w h1 h2
      rcases Bool.eq_false_or_eq_true (waxS c (k % W) (k / W)) with hx | hx
      · have hno := frL_no hx
        rw [hx] at HX0
        have HX := Lib.hid HX0
        have HN := Lib.hid hno
        clear HX0 hx hno c1 c2
        generalize k % W = x at *
        generalize k / W = y at *
        go_wp2_with (go_at_call 74; refine (HX.out _ (by (go_simp <;> (intros; omega))) (by first | omega | (simp <;> omega))).mono ?_; rintro e w1 ⟨rfl, hb1⟩; have r1 := keep_rowA hb1; have f1 := keep_frA hb1; have s1 := hb1.size; (try simp only [World.size_alloc, World.size_setCell, setRow_size, World.size_drew, size_drewNm] at r1 f1 s1))
        go_roundw
        case rel => exact ⟨k + 1, gf, cf, by omega, by go_num, by rw [HN.out], by rw [HN.out]; exact HZ.out.below (by repeat' (first | with_reducible exact Below.refl _ _ | with_reducible assumption | with_reducible refine Below.drew ?_ | with_reducible refine Below.drewN ?_ _ | with_reducible refine Below.alloc ?_ ?_ _ | with_reducible refine Below.setCell ?_ ?_ _ | with_reducible refine Below.setRow ?_ ?_ _ | with_reducible refine below_step (by assumption) ?_ ?_ | (show (_ : Nat) ≤ _; first | omega | (simp <;> omega)))) (Nat.le_refl _), by repeat' (first | with_reducible exact Below.refl _ _ | with_reducible assumption | with_reducible refine Below.drew ?_ | with_reducible refine Below.drewN ?_ _ | with_reducible refine Below.alloc ?_ ?_ _ | with_reducible refine Below.setCell ?_ ?_ _ | with_reducible refine Below.setRow ?_ ?_ _ | with_reducible refine below_step (by assumption) ?_ ?_ | (show (_ : Nat) ≤ _; first | omega | (simp <;> omega)))⟩
        case measure => simp [intOf]; omega
      · have hyes := frL_yes hx
        have hsp := spL_snoc W (frL c W k) k
        rw [hx] at HX0
        have HX := Lib.hid HX0
        have HN := Lib.hid hyes
        have HS := Lib.hid hsp
        clear HX0 hx hyes hsp c1 c2
        generalize k % W = x at *
        generalize k / W = y at *
        go_wp2_with (first | (go_at_call 74; refine (HX.out _ (by (go_simp <;> (intros; omega))) (by first | omega | (simp <;> omega))).mono ?_; rintro e w1 ⟨rfl, hb1⟩; have r1 := keep_rowA hb1; have f1 := keep_frA hb1; have s1 := hb1.size; (try simp only [World.size_alloc, World.size_setCell, setRow_size, World.size_drew, size_drewNm] at r1 f1 s1)) | (at_builtin; refine wpList_append_ownZ _ rfl _ _ 49 rfl w5.heap.size 59 i0 z0 2 2 Tryz.underlying49 hi0 hz0 hs0 hb0 hc0 (by decide) _ _ _ rfl (HZ.out.below (by repeat' (first | with_reducible exact Below.refl _ _ | with_reducible assumption | with_reducible refine Below.drew ?_ | with_reducible refine Below.drewN ?_ _ | with_reducible refine Below.alloc ?_ ?_ _ | with_reducible refine Below.setCell ?_ ?_ _ | with_reducible refine Below.setRow ?_ ?_ _ | with_reducible refine below_step (by assumption) ?_ ?_ | (show (_ : Nat) ≤ _; first | omega | (simp <;> omega)))) (Nat.le_refl _)) ⟨w1.heap.size, 0, none⟩ 1 1 [.int .i8 (x : Int), .int .i8 (y : Int)] rfl (by decide) rfl ?c1 ?c2 ?c3 ?c4 ?c5 ?_))
        case c1 =>
          intro j u hj
          match j, hj with
          | 0, hj => simp at hj; subst hj; simp [Addr.add]
          | 1, hj => simp at hj; subst hj; simp [Addr.add]
        case c2 => intro u hu; simp at hu; rcases hu with rfl | rfl <;> rfl
        case c3 => unfold maxLen; omega
        case c4 => omega
        case c5 => simp; omega
        intro g2 c2 w2 hown2 hb2
        have hl2 : (frL c W k).length + 1 = (frL c W (k + 1)).length := by rw [HN.out, List.length_append]; rfl
        rw [← HS.out, ← HN.out, hl2] at hown2
        have HO2 := Lib.hid hown2
        clear hown2
        go_wp2
        go_roundw
        case rel => exact ⟨k + 1, g2, c2, by omega, by go_num, by rw [hl2], .inl HO2.out, by repeat' (first | with_reducible exact Below.refl _ _ | with_reducible assumption | with_reducible refine Below.drew ?_ | with_reducible refine Below.drewN ?_ _ | with_reducible refine Below.alloc ?_ ?_ _ | with_reducible refine Below.setCell ?_ ?_ _ | with_reducible refine Below.setRow ?_ ?_ _ | with_reducible refine below_step (by assumption) ?_ ?_ | (show (_ : Nat) ≤ _; first | omega | (simp <;> omega)))⟩
        case measure => simp [intOf]; omega
    · have hke : k = N := by omega
      subst hke
      have HLI := Lib.hid (fun (x : Nat) (hx : x ∈ frL c W k) => frL_in hx)
      have HLD := Lib.hid (frL_nodup c W k)
      have hLn := frL_len c W k
      have HF : (frL c W k).length = 0 ∨ wr.ownsRow w5.heap.size 59 2 (.slice (some ⟨gf, 0, none⟩) (frL c W k).length cf) (frL c W k).length (spL W (frL c W k)) := by
        rcases HZ.out with h | ⟨h, -⟩
        · exact .inr h
        · exact .inl h
      have HA := Lib.hid (owns_below HA5.out hb)
      have hrp : rowOf wr p = srcR a len cap t sd := (keep_row hb (by omega)).trans hrp5
      have hfp : frOf wr p = (0, 0) := (keep_fr hb (by omega)).trans hfp5
      have hbp : Below p w wr := by repeat' (first | with_reducible exact Below.refl _ _ | with_reducible assumption | with_reducible refine Below.drew ?_ | with_reducible refine Below.drewN ?_ _ | with_reducible refine Below.alloc ?_ ?_ _ | with_reducible refine Below.setCell ?_ ?_ _ | with_reducible refine Below.setRow ?_ ?_ _ | with_reducible refine below_step (by assumption) ?_ ?_ | (show (_ : Nat) ≤ _; first | omega | (simp <;> omega)))
      have hpw : p < wr.heap.size := by omega
      clear HZ HCL hrp5 hfp5 hrq5 hbp5
      generalize frL c W k = L at *
      obtain ⟨m, hm⟩ : ∃ m, L.length = m := ⟨_, rfl⟩
      rw [hm] at HF hLn ⊢
      go_upto_region 10 with (go_at_call 83; refine (HP.out t sd 5 _ (by omega) (by first | omega | (simp <;> omega)) (HC.out.below (B' := B) (by repeat' (first | with_reducible exact Below.refl _ _ | with_reducible assumption | with_reducible refine Below.drew ?_ | with_reducible refine Below.drewN ?_ _ | with_reducible refine Below.alloc ?_ ?_ _ | with_reducible refine Below.setCell ?_ ?_ _ | with_reducible refine Below.setRow ?_ ?_ _ | with_reducible refine below_step (by assumption) ?_ ?_ | (show (_ : Nat) ≤ _; first | omega | (simp <;> omega)))) (Nat.le_refl _)) (by (go_simp <;> (intros; omega))) (by (go_simp <;> (intros; omega))) (by first | omega | (simp <;> omega))).mono ?_; rintro e w6 ⟨x1, sd, t, rfl, hx1, ht, hs⟩; have r_w6 := hs.rowA; have f_w6 := hs.frA; have s_w6 := hs.size; have hb_w6 := hs.below; have HA6 := Lib.hid (hs.owns HA.out hp); have HF6 := Lib.hid (HF.imp id (fun h => hs.owns h (by omega))); clear hs; (try simp only [World.size_alloc, World.size_setCell, setRow_size, World.size_drew, size_drewNm] at r_w6 f_w6 s_w6))
      have hrp6 : rowOf w6 p = srcR a len cap t sd := by (go_simp <;> (intros; omega))
      have hfp6 : frOf w6 p = (0, 0) := by (go_simp <;> (intros; omega))
      have hbp6 : Below p w w6 := by repeat' (first | with_reducible exact Below.refl _ _ | with_reducible assumption | with_reducible refine Below.drew ?_ | with_reducible refine Below.drewN ?_ _ | with_reducible refine Below.alloc ?_ ?_ _ | with_reducible refine Below.setCell ?_ ?_ _ | with_reducible refine Below.setRow ?_ ?_ _ | with_reducible refine below_step (by assumption) ?_ ?_ | (show (_ : Nat) ≤ _; first | omega | (simp <;> omega)))
      clear r_w6 f_w6 hb_w6 HA HF hrp hfp hbp hpw
      obtain ⟨k0, hk0⟩ : ∃ k0 : Nat, x1 = (k0 : Int) := ⟨x1.toNat, by omega⟩
      subst hk0
      go_loopw [11, 7] (fun z u wr => ∃ (kk t : Nat) (sd : Int) (Ms : List (Int × Value × List Nat)) (gu cu : Nat), z = .int .i64 (kk : Int) ∧ kk + Ms.length ≤ 4 ∧ u = .slice (some ⟨gu, 0, none⟩) Ms.length cu ∧ MksAt wr w.heap.size W (.slice (some ⟨gu, 0, none⟩) Ms.length cu) Ms ∧ (∀ x ∈ Ms, GoodM c W (H * W) x) ∧ (m = 0 ∨ wr.ownsRow w5.heap.size 59 2 (.slice (some ⟨gf, 0, none⟩) m cf) m (spL W L)) ∧ Below p w wr ∧ w5.heap.size ≤ wr.heap.size ∧ t ≤ 1000001 + 3 * Ms.length ∧ rowOf wr p = srcR a len cap t sd ∧ frOf wr p = (0, 0)) (fun z u wr => (intOf z).toNat)
      case atStart => exact ⟨k0, t, sd, [], w.heap.size, 0, rfl, by simp; omega, rfl, ⟨HA6.out, fun x hx => by simp at hx⟩, fun x hx => by simp at hx, HF6.out, hbp6, by omega, by simp; omega, hrp6, hfp6⟩
      case round =>
        clear hrp6 hfp6 hbp6 HA6 HF6 hx1 ht
        obtain ⟨kk, t, sd, Ms, gu, cu, rfl, hkm, rfl, hms, hgood, hF, hb, hsz, ht, hrp, hfp⟩ := hrel
        have HMS := Lib.hid hms
        have HGD := Lib.hid hgood
        clear hms hgood
        have hpw : p < wr.heap.size := by omega
        by_cases hk0 : kk = 0
        · subst hk0
          go_wp2
          go_ret
          first | exact ⟨_, Ms, rfl, HMS.out, by omega, (by first | exact HGD.out | (intros; exact HGD.out _ (by assumption)) | (intros; rw [← hN]; exact HGD.out _ (by assumption))), by repeat' (first | with_reducible exact Below.refl _ _ | with_reducible assumption | with_reducible refine Below.drew ?_ | with_reducible refine Below.drewN ?_ _ | with_reducible refine Below.alloc ?_ ?_ _ | with_reducible refine Below.setCell ?_ ?_ _ | with_reducible refine Below.setRow ?_ ?_ _ | with_reducible refine below_step (by assumption) ?_ ?_ | (show (_ : Nat) ≤ _; first | omega | (simp <;> omega)))⟩ | exact ⟨_, rfl, Ms, HMS.out, by omega, (by first | exact HGD.out | (intros; exact HGD.out _ (by assumption)) | (intros; rw [← hN]; exact HGD.out _ (by assumption))), by repeat' (first | with_reducible exact Below.refl _ _ | with_reducible assumption | with_reducible refine Below.drew ?_ | with_reducible refine Below.drewN ?_ _ | with_reducible refine Below.alloc ?_ ?_ _ | with_reducible refine Below.setCell ?_ ?_ _ | with_reducible refine Below.setRow ?_ ?_ _ | with_reducible refine below_step (by assumption) ?_ ?_ | (show (_ : Nat) ≤ _; first | omega | (simp <;> omega)))⟩
        have hkp : (0 : Int) < (kk : Int) := by omega
        by_cases hm0 : m = 0
        · have hmn : ¬ (0 : Int) < (m : Int) := by omega
          go_wp2
          go_ret
          first | exact ⟨_, Ms, rfl, HMS.out, by omega, (by first | exact HGD.out | (intros; exact HGD.out _ (by assumption)) | (intros; rw [← hN]; exact HGD.out _ (by assumption))), by repeat' (first | with_reducible exact Below.refl _ _ | with_reducible assumption | with_reducible refine Below.drew ?_ | with_reducible refine Below.drewN ?_ _ | with_reducible refine Below.alloc ?_ ?_ _ | with_reducible refine Below.setCell ?_ ?_ _ | with_reducible refine Below.setRow ?_ ?_ _ | with_reducible refine below_step (by assumption) ?_ ?_ | (show (_ : Nat) ≤ _; first | omega | (simp <;> omega)))⟩ | exact ⟨_, rfl, Ms, HMS.out, by omega, (by first | exact HGD.out | (intros; exact HGD.out _ (by assumption)) | (intros; rw [← hN]; exact HGD.out _ (by assumption))), by repeat' (first | with_reducible exact Below.refl _ _ | with_reducible assumption | with_reducible refine Below.drew ?_ | with_reducible refine Below.drewN ?_ _ | with_reducible refine Below.alloc ?_ ?_ _ | with_reducible refine Below.setCell ?_ ?_ _ | with_reducible refine Below.setRow ?_ ?_ _ | with_reducible refine below_step (by assumption) ?_ ?_ | (show (_ : Nat) ≤ _; first | omega | (simp <;> omega)))⟩
        have hmp : (0 : Int) < (m : Int) := by omega
        have hFm := hF.resolve_left hm0
        have HFM := Lib.hid hFm
        clear hF hFm
        have HPm := Lib.hid (fun t sd w2 ht hc hr hf hp => pick_any B p a len cap t sd (m : Int) ht (by omega) w2 hB hc hr hf hp)
        have HP5 := Lib.hid (fun t sd w2 ht hc hr hf hp => pick_any B p a len cap t sd 5 ht (by omega) w2 hB hc hr hf hp)
        go_wp2_with (go_at_call 83; refine (HP.out t sd _ _ (by omega) (by first | omega | (simp <;> omega)) (HC.out.below (B' := B) (by repeat' (first | with_reducible exact Below.refl _ _ | with_reducible assumption | with_reducible refine Below.drew ?_ | with_reducible refine Below.drewN ?_ _ | with_reducible refine Below.alloc ?_ ?_ _ | with_reducible refine Below.setCell ?_ ?_ _ | with_reducible refine Below.setRow ?_ ?_ _ | with_reducible refine below_step (by assumption) ?_ ?_ | (show (_ : Nat) ≤ _; first | omega | (simp <;> omega)))) (Nat.le_refl _)) (by (go_simp <;> (intros; omega))) (by (go_simp <;> (intros; omega))) (by first | omega | (simp <;> omega))).mono ?_; rintro e w7 ⟨u, sd, t, rfl, hu, ht, hs⟩; have r_w7 := hs.rowA; have f_w7 := hs.frA; have s_w7 := hs.size; have hb_w7 := hs.below; have HMS7 := Lib.hid (show MksAt _ _ _ _ _ from ⟨hs.owns HMS.out.1 hp, fun x hx => hs.owns (HMS.out.2 x hx) hp⟩); have HFM7 := Lib.hid (hs.owns HFM.out (by omega)); clear hs; (try simp only [World.size_alloc, World.size_setCell, setRow_size, World.size_drew, size_drewNm] at r_w7 f_w7 s_w7))
        have hkc3 : IntKind.i8.wrap u = u := by simp only [IntKind.wrap, IntKind.bits, IntKind.signed]; simp; omega
        go_wp2_with (first | (go_at_call 83; with_reducible refine (HPm.out t sd _ (by omega) (HC.out.below (B' := B) (by repeat' (first | with_reducible exact Below.refl _ _ | with_reducible assumption | with_reducible refine Below.drew ?_ | with_reducible refine Below.drewN ?_ _ | with_reducible refine Below.alloc ?_ ?_ _ | with_reducible refine Below.setCell ?_ ?_ _ | with_reducible refine Below.setRow ?_ ?_ _ | with_reducible refine below_step (by assumption) ?_ ?_ | (show (_ : Nat) ≤ _; first | omega | (simp <;> omega)))) (Nat.le_refl _)) (by (go_simp <;> (intros; omega))) (by (go_simp <;> (intros; omega))) (by first | omega | (simp <;> omega))).mono ?_; rintro e w8 ⟨y, sd, t, rfl, hy, ht, hs⟩; have r_w8 := hs.rowA; have f_w8 := hs.frA; have s_w8 := hs.size; have hb_w8 := hs.below; have HMS8 := Lib.hid ((HMS7.out.below (by repeat' (first | with_reducible exact Below.refl _ _ | with_reducible assumption | with_reducible refine Below.drew ?_ | with_reducible refine Below.drewN ?_ _ | with_reducible refine Below.alloc ?_ ?_ _ | with_reducible refine Below.setCell ?_ ?_ _ | with_reducible refine Below.setRow ?_ ?_ _ | with_reducible refine below_step (by assumption) ?_ ?_ | (show (_ : Nat) ≤ _; first | omega | (simp <;> omega))))).src hs hp); have HFM8 := Lib.hid (hs.owns (owns_below HFM7.out (by repeat' (first | with_reducible exact Below.refl _ _ | with_reducible assumption | with_reducible refine Below.drew ?_ | with_reducible refine Below.drewN ?_ _ | with_reducible refine Below.alloc ?_ ?_ _ | with_reducible refine Below.setCell ?_ ?_ _ | with_reducible refine Below.setRow ?_ ?_ _ | with_reducible refine below_step (by assumption) ?_ ?_ | (show (_ : Nat) ≤ _; first | omega | (simp <;> omega))))) (by omega)); clear hs; (try simp only [World.size_alloc, World.size_setCell, setRow_size, World.size_drew, size_drewNm] at r_w8 f_w8 s_w8)) | (go_at_call 83; with_reducible refine (HP5.out t sd _ (by omega) (HC.out.below (B' := B) (by repeat' (first | with_reducible exact Below.refl _ _ | with_reducible assumption | with_reducible refine Below.drew ?_ | with_reducible refine Below.drewN ?_ _ | with_reducible refine Below.alloc ?_ ?_ _ | with_reducible refine Below.setCell ?_ ?_ _ | with_reducible refine Below.setRow ?_ ?_ _ | with_reducible refine below_step (by assumption) ?_ ?_ | (show (_ : Nat) ≤ _; first | omega | (simp <;> omega)))) (Nat.le_refl _)) (by (go_simp <;> (intros; omega))) (by (go_simp <;> (intros; omega))) (by first | omega | (simp <;> omega))).mono ?_; rintro e w9 ⟨z, sd, t, rfl, hz, ht, hs⟩; have r_w9 := hs.rowA; have f_w9 := hs.frA; have s_w9 := hs.size; have hb_w9 := hs.below; have HMS9 := Lib.hid (HMS8.out.src hs hp); have HFM9 := Lib.hid (hs.owns HFM8.out (by omega)); clear hs; (try simp only [World.size_alloc, World.size_setCell, setRow_size, World.size_drew, size_drewNm] at r_w9 f_w9 s_w9)))
        obtain ⟨y0, hy0⟩ : ∃ y0 : Nat, y = (y0 : Int) := ⟨y.toNat, by omega⟩
        subst hy0
        obtain ⟨n0, hn0z⟩ : ∃ n0 : Nat, 1 + z = (n0 : Int) := ⟨(1 + z).toNat, by omega⟩
        have hn01 : 1 ≤ n0 ∧ n0 ≤ 5 := by omega
        have hrs : rowOf w9 w7.heap.size = #[.int .i8 u, .slice none 0 0] := by (go_simp <;> (intros; omega))
        have hfs : frOf w9 w7.heap.size = (0, 0) := by (go_simp <;> (intros; omega))
        have hrp9 : rowOf w9 p = srcR a len cap t sd := by (go_simp <;> (intros; omega))
        have hfp9 : frOf w9 p = (0, 0) := by (go_simp <;> (intros; omega))
        have hb9 : Below p w w9 := by repeat' (first | with_reducible exact Below.refl _ _ | with_reducible assumption | with_reducible refine Below.drew ?_ | with_reducible refine Below.drewN ?_ _ | with_reducible refine Below.alloc ?_ ?_ _ | with_reducible refine Below.setCell ?_ ?_ _ | with_reducible refine Below.setRow ?_ ?_ _ | with_reducible refine below_step (by assumption) ?_ ?_ | (show (_ : Nat) ≤ _; first | omega | (simp <;> omega)))
        have hgf7 : gf < w7.heap.size := (HFM7.out.lt gf rfl).2
        have hgu7 : ∀ q, (Value.slice (some ⟨gu, 0, none⟩) Ms.length cu).ownBlock = some q → q < w7.heap.size := fun q hq => (HMS7.out.1.lt q hq).2
        have hx7 : ∀ x ∈ Ms, ∀ q, x.2.1.ownBlock = some q → q < w7.heap.size := fun x hx q hq => ((HMS7.out.2 x hx).lt q hq).2
        obtain ⟨gf2, cf2, hv9, -, hgf9, hcf9⟩ := owns_some HFM9.out (by omega)
        simp only [Value.slice.injEq, Option.some.injEq, Addr.mk.injEq] at hv9
        obtain ⟨⟨rfl, -, -⟩, -, rfl⟩ := hv9
        have HCF := Lib.hid hcf9
        have HX7 := Lib.hid hx7
        have HU7 := Lib.hid hgu7
        have hs79 : w7.heap.size < w9.heap.size := by omega
        have hpw7 : p < w7.heap.size := by omega
        have hww7 : w5.heap.size ≤ w7.heap.size := by omega
        have ht9 : t ≤ 1000001 + 3 * (Ms.length + 1) := by omega
        clear r_w7 f_w7 r_w8 f_w8 r_w9 f_w9 hb_w7 hb_w8 hb_w9 HMS8 HFM8 HMS HFM hcf9 hx7 hgu7 hrp hfp hb
        have hy0m : y0 < m := by omega
        clear hy hz
        generalize w7.heap.size = s at *
        clear HMS7 HFM7
        go_loopw [14] (fun zz wr => ∃ (nn j : Nat) (ac : Option Addr) (cc : Nat), zz = .int .i64 (nn : Int) ∧ nn + j = n0 ∧ j ≤ m ∧ wr.ownsRow w9.heap.size 59 2 (.slice ac j cc) j (spL W (rotL L y0 j)) ∧ rowOf wr s = #[.int .i8 u, .slice ac j cc] ∧ frOf wr s = (0, 0) ∧ Below s w9 wr ∧ w9.heap.size ≤ wr.heap.size) (fun zz wr => (intOf zz).toNat)
        case atStart => exact ⟨n0, 0, none, 0, by rw [hn0z], by omega, by omega, World.ownsRow_nil _ _ _ _, hrs, hfs, by repeat' (first | with_reducible exact Below.refl _ _ | with_reducible assumption | with_reducible refine Below.drew ?_ | with_reducible refine Below.drewN ?_ _ | with_reducible refine Below.alloc ?_ ?_ _ | with_reducible refine Below.setCell ?_ ?_ _ | with_reducible refine Below.setRow ?_ ?_ _ | with_reducible refine below_step (by assumption) ?_ ?_ | (show (_ : Nat) ≤ _; first | omega | (simp <;> omega))), Nat.le_refl _⟩
        case round =>
          clear hrs hfs
          obtain ⟨nn, j, ac, cc, rfl, hnj, hjm, ho, hrs, hfs, hbs, hszs⟩ := hrel
          have HO := Lib.hid ho
          clear ho
          have hsw : s < wr.heap.size := by omega
          by_cases hgo : 0 < nn ∧ j < m
          case neg =>
            have hj1 : 1 ≤ j ∧ j ≤ 5 := by omega
            have hwk : IntKind.i64.wrap ((kk : Int) - 1) = ((kk - 1 : Nat) : Int) := by rw [IntWalk.i64_in _ (by omega)]; omega
            have HOUT := Lib.hid (owns_keepB HMS9.out.1 hbs HU7.out)
            have HXS := Lib.hid (fun x hx => owns_keepB (HMS9.out.2 x hx) hbs (HX7.out x hx))
            have HFR := Lib.hid (owns_keepB HFM9.out hbs (fun q hq => by simp [Value.ownBlock] at hq; omega))
            have hrpw : rowOf wr p = srcR a len cap t sd := (keep_row hbs hpw7).trans hrp9
            have hfpw : frOf wr p = (0, 0) := (keep_fr hbs hpw7).trans hfp9
            have hbw : Below p w wr := by repeat' (first | with_reducible exact Below.refl _ _ | with_reducible assumption | with_reducible refine Below.drew ?_ | with_reducible refine Below.drewN ?_ _ | with_reducible refine Below.alloc ?_ ?_ _ | with_reducible refine Below.setCell ?_ ?_ _ | with_reducible refine Below.setRow ?_ ?_ _ | with_reducible refine below_step (by assumption) ?_ ?_ | (show (_ : Nat) ≤ _; first | omega | (simp <;> omega)))
            have HGX := Lib.hid (show GoodM c W (H * W) (u, .slice ac j cc, rotL L y0 j) from ⟨by show 0 ≤ u ∧ u ≤ 2; omega, by show 1 ≤ (rotL L y0 j).length ∧ _; rw [rotL_len]; omega, fun q hq => by
              obtain ⟨q1, q2⟩ := HLI.out q (rotL_in (by omega) hq)
              exact ⟨by omega, q2⟩, rotL_nodup (by omega) HLD.out⟩)
            have hgb := (HOUT.out.lt gu rfl).1
            have HC3 := Lib.hid (mkC_snoc Ms (u, .slice ac j cc, rotL L y0 j))
            have hex : nn = 0 ∨ (0 < nn ∧ ¬ j < m) := by omega
            rcases hex with hex | ⟨hex, hex2⟩
            all_goals
              have hn0i : (nn = 0 ∧ ¬ (0 : Int) < (nn : Int)) ∨ ((0 : Int) < (nn : Int) ∧ ¬ (j : Int) < (m : Int)) := by omega
              rcases hn0i with ⟨hn0n, hn0i⟩ | ⟨hn0i, hj0i⟩ <;> first | (exfalso; omega) | skip
              go_wp2_with (at_builtin; refine wpList_append_own _ rfl _ _ 35 rfl w.heap.size 51 i1 z1 2 32 Tryz.underlying35 hi1 hz1 hs1 hb1 hc1 (by decide) _ _ _ rfl (owns_below HOUT.out (by repeat' (first | with_reducible exact Below.refl _ _ | with_reducible assumption | with_reducible refine Below.drew ?_ | with_reducible refine Below.drewN ?_ _ | with_reducible refine Below.alloc ?_ ?_ _ | with_reducible refine Below.setCell ?_ ?_ _ | with_reducible refine Below.setRow ?_ ?_ _ | with_reducible refine below_step (by assumption) ?_ ?_ | (show (_ : Nat) ≤ _; first | omega | (simp <;> omega))))) ⟨wr.heap.size, 0, none⟩ 1 1 [.int .i8 u, .slice ac j cc] rfl rfl ?c1 ?c2 ?c3 ?c4 ?c5 ?_)
              case c3 => unfold maxLen; omega
              case c4 => omega
              case c5 => first | omega | (simp <;> omega)
              intro v11 w11 hown11 hgrow11 hnil11
              have hne11 : v11 ≠ .slice none 0 0 := fun e => by first | exact hnil11 e | (have := (hnil11.1 e).1; cases this)
              have hout12 := owns_below HOUT.out (show Below wr.heap.size wr _ from (by repeat' (first | with_reducible exact Below.refl _ _ | with_reducible assumption | with_reducible refine Below.drew ?_ | with_reducible refine Below.drewN ?_ _ | with_reducible refine Below.alloc ?_ ?_ _ | with_reducible refine Below.setCell ?_ ?_ _ | with_reducible refine Below.setRow ?_ ?_ _ | with_reducible refine below_step (by assumption) ?_ ?_ | (show (_ : Nat) ≤ _; first | omega | (simp <;> omega))) : Below wr.heap.size wr ((wr.alloc (.cells #[.int .i8 u, .slice ac j cc] 51)))))
              have hk11 := fun {b n : Nat} {v : Value} {xs : List Value} (h : wr.ownsRow b 59 2 v n xs) => World.ownsRow.kept (World.ownsRow.alloc h _) hgrow11 (ty_apart (World.ownsRow.alloc h _) hout12 (by decide))
              have hown12 : w11.ownsRow w.heap.size 51 2 v11 (Ms.length + 1) (mkC (Ms ++ [(u, Value.slice ac j cc, rotL L y0 j)])) := by rw [HC3.out]; exact hown11
              obtain ⟨g11, c11, rfl⟩ := owns_formM hown12 hne11
              have HMS11 := Lib.hid (show MksAt w11 w.heap.size W (.slice (some ⟨g11, 0, none⟩) (Ms ++ [(u, Value.slice ac j cc, rotL L y0 j)]).length c11) (Ms ++ [(u, Value.slice ac j cc, rotL L y0 j)]) from ⟨by rw [List.length_append]; exact hown12, fun x hx => by
                rcases List.mem_append.1 hx with hx | hx
                · exact hk11 (HXS.out x hx)
                · rw [List.mem_singleton] at hx
                  subst hx
                  show w11.ownsRow _ _ 2 (.slice ac j cc) (rotL L y0 j).length _
                  rw [rotL_len]
                  exact hk11 (owns_downM HO.out (by omega))⟩)
              have HF11 := Lib.hid (hk11 HFR.out)
              have HG11 := Lib.hid (show ∀ x ∈ Ms ++ [(u, Value.slice ac j cc, rotL L y0 j)], GoodM c W (H * W) x from fun x hx => by
                rcases List.mem_append.1 hx with hx | hx
                · exact HGD.out x hx
                · rw [List.mem_singleton] at hx
                  subst hx
                  exact HGX.out)
              have hb11 : Below p w w11 := below_grown (Below.alloc hbw (by omega) _) hgrow11 (fun q hq => by simp [Value.ownBlock] at hq; omega) (by simp; omega)
              have hs11 : wr.heap.size + 1 ≤ w11.heap.size := by have := hgrow11.size; simpa using this
              have hrp11 : rowOf w11 p = srcR a len cap t sd := by
                unfold rowOf
                rw [hgrow11.block p (by simp; omega) (by simp [Value.ownBlock]; omega)]
                show rowOf (wr.alloc _) p = _
                (go_simp <;> (intros; omega))
              have hfp11 : frOf w11 p = (0, 0) := by
                unfold frOf
                rw [hgrow11.block p (by simp; omega) (by simp [Value.ownBlock]; omega)]
                show frOf (wr.alloc _) p = _
                (go_simp <;> (intros; omega))
              clear hown11 hown12 hgrow11 hnil11 hne11 hout12 hk11
              go_wp2
              go_roundw
              case rel => exact ⟨kk - 1, t, sd, Ms ++ [(u, Value.slice ac j cc, rotL L y0 j)], g11, c11, by go_num, by simp; omega, by simp, HMS11.out, HG11.out, .inr HF11.out, hb11, by omega, by simp; omega, hrp11, hfp11⟩
              case measure => simp [intOf]; omega
          obtain ⟨hn1, hj1⟩ := hgo
          have hn1i : (0 : Int) < (nn : Int) := by omega
          have hj1i : (j : Int) < (m : Int) := by omega
          obtain ⟨ix, hix⟩ : ∃ ix, (y0 + j) % m = ix := ⟨_, rfl⟩
          have hixm : ix < m := by rw [← hix]; exact Nat.mod_lt _ (by omega)
          have hixi : (ix : Int) < (m : Int) := by omega
          have hwa : IntKind.i64.wrap ((y0 : Int) + (j : Int)) = (y0 : Int) + (j : Int) := IntWalk.i64_in _ (by omega)
          have hrem : ((y0 : Int) + (j : Int)).tmod (m : Int) = (ix : Int) := by rw [Int.tmod_eq_emod_of_nonneg (by omega), ← hix, ← Int.natCast_add]; first | rfl | exact (Int.natCast_emod _ _).symm | simp
          have hwr : IntKind.i64.wrap (ix : Int) = (ix : Int) := IntWalk.i64_in _ (by omega)
          have hwn : IntKind.i64.wrap ((nn : Int) - 1) = ((nn - 1 : Nat) : Int) := by rw [IntWalk.i64_in _ (by omega)]; omega
          have hmz : ¬ (m : Int) = 0 := by omega
          have hmzb : ((m : Int) == 0) = false := by rw [beq_eq_false_iff_ne]; exact hmz
          obtain ⟨kx, hkx⟩ : ∃ kx, L[ix]? = some kx := ⟨_, List.getElem?_eq_getElem (by omega)⟩
          have hgd : L.getD ((y0 + j) % L.length) 0 = kx := by rw [hm, hix, List.getD_eq_getElem?_getD, hkx]; rfl
          obtain ⟨c1, c2⟩ := spL_at (W := W) hkx
          have e1 := HCF.out _ _ c1
          have e2 := HCF.out _ _ c2
          rw [← keep_row hbs (by omega)] at e1 e2
          have hgfw : gf < wr.heap.size := by omega
          have HR := Lib.hid (show spL W (rotL L y0 (j + 1)) = spL W (rotL L y0 j) ++ [.int .i8 ((kx % W : Nat) : Int), .int .i8 ((kx / W : Nat) : Int)] by rw [rotL_snoc, hgd, spL_snoc])
          clear c1 c2 hgd hkx hix
          generalize kx % W = x8 at *
          generalize kx / W = y8 at *
          obtain ⟨R, hR⟩ : ∃ R, rowOf wr gf = R := ⟨_, rfl⟩
          rw [hR] at e1 e2
          go_wp2
          obtain ⟨g4, c4, w10, hap, hown4, hb4⟩ := append_ownZ (P := Tryz.prog) ((wr.alloc (.cells #[.int .i8 (x8 : Int), .int .i8 (y8 : Int)] 59)).drew) w9.heap.size 49 49 59 i0 z0 2 2 Tryz.underlying49 hi0 hz0 hs0 hb0 hc0 (by decide) (.slice ac j cc) j (spL W (rotL L y0 j)) (.inl (owns_below HO.out (by repeat' (first | with_reducible exact Below.refl _ _ | with_reducible assumption | with_reducible refine Below.drew ?_ | with_reducible refine Below.drewN ?_ _ | with_reducible refine Below.alloc ?_ ?_ _ | with_reducible refine Below.setCell ?_ ?_ _ | with_reducible refine Below.setRow ?_ ?_ _ | with_reducible refine below_step (by assumption) ?_ ?_ | (show (_ : Nat) ≤ _; first | omega | (simp <;> omega)))))) ⟨wr.heap.size, 0, none⟩ 1 1 [.int .i8 (x8 : Int), .int .i8 (y8 : Int)] (by decide) rfl (fun i u hi => by (match i, hi with | 0, hi => (simp at hi; subst hi; (first | (simp [Addr.add]; done) | (rw [show (⟨wr.heap.size, 0, none⟩ : Addr).add 0 = ⟨wr.heap.size, 0, none⟩ from by simp [Addr.add], cell_row]; go_simp))) | 1, hi => (simp at hi; subst hi; (first | (simp [Addr.add]; done) | (rw [show (⟨wr.heap.size, 0, none⟩ : Addr).add 1 = ⟨wr.heap.size, 1, none⟩ from by simp [Addr.add], cell_row]; go_simp))))) (fun u hu => by (simp at hu; rcases hu with rfl | rfl <;> rfl)) (by unfold maxLen; omega) (by omega) (by first | omega | (simp <;> omega))
          replace hap : Sem.run Tryz.prog (appG #[49, 49] 49 #[.slice ac j cc, .slice (some ⟨wr.heap.size, 0, none⟩) 1 1]) ((wr.alloc (.cells #[.int .i8 (x8 : Int), .int .i8 (y8 : Int)] 59)).drew) = .ok (.slice (some ⟨g4, 0, none⟩) (j + 1) c4) w10 := hap
          have HO4 := Lib.hid hown4
          clear hown4
          have r_hb4 := keep_rowA hb4; have f_hb4 := keep_frA hb4; have s_hb4 := hb4.size; (try simp only [World.size_alloc, World.size_setCell, setRow_size, World.size_drew, size_drewNm] at r_hb4 f_hb4 s_hb4)
          go_region
          go_wp2
          go_roundw
          case rel => exact ⟨nn - 1, j + 1, some ⟨g4, 0, none⟩, c4, by go_num, by omega, by omega, by rw [HR.out]; exact owns_set HO4.out (by omega) _, by (go_simp <;> (intros; omega)), by (go_simp <;> (intros; omega)), by repeat' (first | with_reducible exact Below.refl _ _ | with_reducible assumption | with_reducible refine Below.drew ?_ | with_reducible refine Below.drewN ?_ _ | with_reducible refine Below.alloc ?_ ?_ _ | with_reducible refine Below.setCell ?_ ?_ _ | with_reducible refine Below.setRow ?_ ?_ _ | with_reducible refine below_step (by assumption) ?_ ?_ | (show (_ : Nat) ≤ _; first | omega | (simp <;> omega))), by first | omega | (simp <;> omega)⟩
          case measure => simp [intOf]; omega
end Go.Proofs.YtejnejplofddnaaGreatDoor
/- The marks that are drawn from bytes. -/
namespace Go.Proofs.YtejnejplofddnaaGreatDoor
open Go.RowKit
set_option linter.unusedVariables false
set_option linter.unusedSimpArgs false
set_option maxRecDepth 100000
theorem A2Marks_any (a : Option Addr) (len cap : Nat) (c : Nat → Int) (W H : Nat) (hD : DrI c W H (H * W)) (w : World) (hc : CodeIn w.heap.size w a len) :
    Calls Tryz.prog 7 #[.slice a len cap, .agg (kc sk 266 c)] w fun e w' => ∃ v Ms, e = .returned v ∧ OwnM w' w.heap.size v Ms.length (mkF W Ms) ∧ Ms.length ≤ 4 ∧ (∀ x ∈ Ms, GoodM c W (H * W) x) ∧ Below w.heap.size w w' := by
  have HF := Lib.hid (fun w => l00From_any a len cap w)
  have HD := Lib.hid (fun p q w2 hB hc hr hf hp hrq hqp => l06Made_any w.heap.size p q a len cap 0 0 c hD.fit W H hD.w0 hD.h0 (by have := hD.w1; omega) (by have := hD.h1; omega) hD.w1.2 hD.h1.2 (by omega) w2 hB hc hr hf hp hrq hqp)
  have HC := Lib.hid hc
  clear hc hD
  go_enter Tryz.func7, Tryz.ntmps7
  go_wp2_with (first | (go_at_call 38; refine (HF.out _).mono ?_; rintro e w1 ⟨rfl, hr1, hf1, hs1, hb1⟩; (try simp only [World.size_alloc] at hr1 hf1 hs1); have r_hb1 := keep_rowA hb1; have f_hb1 := keep_frA hb1; have s_hb1 := hb1.size; (try simp only [World.size_alloc, World.size_setCell, setRow_size, World.size_drew, size_drewNm] at r_hb1 f_hb1 s_hb1)) | (go_at_call 39; refine (HD.out _ _ _ (by first | omega | (simp <;> omega)) (HC.out.below (B' := w.heap.size) (by repeat' (first | with_reducible exact Below.refl _ _ | with_reducible assumption | with_reducible refine Below.drew ?_ | with_reducible refine Below.drewN ?_ _ | with_reducible refine Below.alloc ?_ ?_ _ | with_reducible refine Below.setCell ?_ ?_ _ | with_reducible refine Below.setRow ?_ ?_ _ | with_reducible refine below_step (by assumption) ?_ ?_ | (show (_ : Nat) ≤ _; first | omega | (simp <;> omega)))) (Nat.le_refl _)) (by exact hr1) (by exact hf1) (by first | omega | (simp <;> omega)) (by (go_simp <;> (intros; omega))) (by first | omega | (simp <;> omega))).mono ?_; rintro e w2 ⟨v, Ms, rfl, hms, hl, hg, hb2⟩; obtain ⟨av, cv, rfl⟩ := hms.own.1.len; have HDR := Lib.hid hms; have HG := Lib.hid hg; clear hms hg; have r_hb2 := keep_rowA hb2; have f_hb2 := keep_frA hb2; have s_hb2 := hb2.size; (try simp only [World.size_alloc, World.size_setCell, setRow_size, World.size_drew, size_drewNm] at r_hb2 f_hb2 s_hb2)))
  go_ret
  have ho := HDR.out.own
  have hle : w.heap.size ≤ w1.heap.size := by first | omega | (simp <;> omega)
  exact ⟨_, Ms, rfl, ⟨ho.1.down hle, fun k hk => (ho.2 k hk).down hle⟩, hl, HG.out, by repeat' (first | with_reducible exact Below.refl _ _ | with_reducible assumption | with_reducible refine Below.drew ?_ | with_reducible refine Below.drewN ?_ _ | with_reducible refine Below.alloc ?_ ?_ _ | with_reducible refine Below.setCell ?_ ?_ _ | with_reducible refine Below.setRow ?_ ?_ _ | with_reducible refine below_step (by assumption) ?_ ?_ | (show (_ : Nat) ≤ _; first | omega | (simp <;> omega)))⟩
end Go.Proofs.YtejnejplofddnaaGreatDoor
/- The sheet that is drawn from bytes. -/
namespace Go.Proofs.YtejnejplofddnaaGreatDoor
open Go.RowKit
set_option linter.unusedVariables false
set_option linter.unusedSimpArgs false
set_option maxRecDepth 100000
theorem A2Sheet_any (a : Option Addr) (len cap : Nat) (w : World) (hc : CodeIn w.heap.size w a len) :
    Calls Tryz.prog 6 #[.slice a len cap] w fun e w' => ∃ (c : Nat → Int) (W H : Nat), e = .returned (.agg (kc sk 266 c)) ∧ DrI c W H (H * W) ∧ Below w.heap.size w w' := by
  have HF := Lib.hid (fun w => l00From_any a len cap w)
  have HD := Lib.hid (fun p w2 hB hc hr hf hp => l01Drawn_any w.heap.size p a len cap 0 0 (by omega) w2 hB hc hr hf hp)
  have HC := Lib.hid hc
  clear hc
  go_enter Tryz.func6, Tryz.ntmps6
  go_wp2_with (first | (go_at_call 38; refine (HF.out _).mono ?_; rintro e w1 ⟨rfl, hr1, hf1, hs1, hb1⟩; (simp only [World.size_alloc] at hr1 hf1 hs1); have r_hb1 := keep_rowA hb1; have f_hb1 := keep_frA hb1; have s_hb1 := hb1.size; (try simp only [World.size_alloc, World.size_setCell, setRow_size, World.size_drew, size_drewNm] at r_hb1 f_hb1 s_hb1)) | (go_at_call 37; refine (HD.out _ _ (by first | omega | (simp <;> omega)) (HC.out.below (B' := w.heap.size) (by repeat' (first | with_reducible exact Below.refl _ _ | with_reducible assumption | with_reducible refine Below.drew ?_ | with_reducible refine Below.drewN ?_ _ | with_reducible refine Below.alloc ?_ ?_ _ | with_reducible refine Below.setCell ?_ ?_ _ | with_reducible refine Below.setRow ?_ ?_ _ | with_reducible refine below_step (by assumption) ?_ ?_ | (show (_ : Nat) ≤ _; first | omega | (simp <;> omega)))) (Nat.le_refl _)) (by exact hr1) (by exact hf1) (by first | omega | (simp <;> omega))).mono ?_; rintro e w2 ⟨c, W, H, rfl, hd, hb2⟩; have HDR := Lib.hid hd; clear hd; have r_hb2 := keep_rowA hb2; have f_hb2 := keep_frA hb2; have s_hb2 := hb2.size; (try simp only [World.size_alloc, World.size_setCell, setRow_size, World.size_drew, size_drewNm] at r_hb2 f_hb2 s_hb2)))
  exact bodyPost_ret (v := .agg (kc sk 266 c)) (res_c rfl rfl (by (go_simp <;> (intros; omega)))) rfl ⟨c, W, H, rfl, HDR.out, by repeat' (first | with_reducible exact Below.refl _ _ | with_reducible assumption | with_reducible refine Below.drew ?_ | with_reducible refine Below.drewN ?_ _ | with_reducible refine Below.alloc ?_ ?_ _ | with_reducible refine Below.setCell ?_ ?_ _ | with_reducible refine Below.setRow ?_ ?_ _ | with_reducible refine below_step (by assumption) ?_ ?_ | (show (_ : Nat) ≤ _; first | omega | (simp <;> omega)))⟩
end Go.Proofs.YtejnejplofddnaaGreatDoor
