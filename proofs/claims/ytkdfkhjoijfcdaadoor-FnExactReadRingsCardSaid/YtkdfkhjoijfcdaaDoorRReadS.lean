/- Rings read from a text: the reference. -/
import Derived.Test.YtkdfkhjoijfcdaaDoorRq
import Derived.Test.YtkdfkhjoijfcdaaDoorRd
import Derived.Test.YtkdfkhjoijfcdaaDoorSheetOk
namespace Go.Proofs.YtkdfkhjoijfcdaaDoor
open Go.RowKit Go.Sort
set_option linter.unusedVariables false
set_option linter.unusedSimpArgs false
set_option maxRecDepth 100000
open Classical in
noncomputable def rrC (c : Nat → Int) (t : List UInt8) : Int := if okS c = true then (if SOk (c 0).toNat (c 1).toNat t then 0 else 5) else 1
open Classical in
noncomputable def rrF (c : Nat → Int) (t : List UInt8) : Nat → Int := if okS c = true ∧ SOk (c 0).toNat (c 1).toNat t then gr rwI (iG t) else fun _ => 0
theorem rr_bad {c : Nat → Int} {t : List UInt8} (h : okS c = false) : rrC c t = 1 ∧ rrF c t = fun _ => 0 := ⟨if_neg (by rw [h]; decide), if_neg (fun g => by rw [h] at g; exact absurd g.1 (by decide))⟩
theorem rr_no {c : Nat → Int} {t : List UInt8} {W H : Nat} (h : okS c = true) (hW : c 0 = W) (hH : c 1 = H) (hs : ¬ SOk W H t) : rrC c t = 5 ∧ rrF c t = fun _ => 0 := by
  have e : SOk (c 0).toNat (c 1).toNat t ↔ SOk W H t := by rw [hW, hH]; exact Iff.rfl
  exact ⟨(if_pos h).trans (if_neg (fun g => hs (e.1 g))), if_neg (fun g => hs (e.1 g.2))⟩
theorem rr_yes {c : Nat → Int} {t : List UInt8} {W H : Nat} (h : okS c = true) (hW : c 0 = W) (hH : c 1 = H) (hs : SOk W H t) : rrC c t = 0 ∧ rrF c t = gr rwI (iG t) := by
  have e : SOk (c 0).toNat (c 1).toNat t ↔ SOk W H t := by rw [hW, hH]; exact Iff.rfl
  exact ⟨(if_pos h).trans (if_pos (e.2 hs)), if_pos ⟨h, e.2 hs⟩⟩
/-- The cells set to -1 so far. -/
def fillC (n : Nat) : Nat → Int := fun j => if j < n then -1 else 0
theorem rowOk_at {t : List UInt8} {W H : Nat} {L : List (List UInt8)} (hL : sp 10 t = L) {y : Nat} {l : List UInt8} (hy : y < H) (hl : L[y]? = some l) (h : ¬ rowOkS W l) : ¬ SOk W H t := fun g => by
  rw [SOk, hL] at g
  exact h (g.2.2 l (List.mem_of_getElem? (i := y) (by rw [List.getElem?_take, if_pos hy]; exact hl)))
theorem split10 (l : List UInt8) (hl : l.length ≤ 1048576) (w : World) : Calls Tryd.prog 9 #[.string (tx l), .int .u8 10] w fun e w' => ∃ v, e = .returned v ∧ w'.ownsRow w.heap.size 9 1 v (sp 10 l).length (strV (sp 10 l)) ∧ Below w.heap.size w w' := l01Split_any 10 l hl w
theorem splitR (l : List UInt8) (hl : l.length ≤ 1048576) (w : World) : Calls Tryd.prog 9 #[.string (tx l), .int .u8 32] w fun e w' => ∃ v, e = .returned v ∧ w'.ownsRow w.heap.size 9 1 v (sp 32 l).length (strV (sp 32 l)) ∧ Below w.heap.size w w' := l01Split_any 32 l hl w
set_option maxHeartbeats 32000000 in
theorem sReadRings_any (c : Nat → Int) (hfc : FitSheet c) (t : List UInt8) (hl : t.length ≤ 1048576) (w : World) :
    Calls Tryd.prog 4 #[.agg (kc sk 266 c), .string (tx t)] w fun e w' => e = .returned (.tuple #[.agg (kc rk 64 (rrF c t)), .int .i64 (rrC c t)]) ∧ Below w.heap.size w w' := by
  have HV0 := fun p w h1 h2 => l01Ok_any p c hfc w h1 h2
  rcases Bool.eq_false_or_eq_true (okS c) with h1 | h1
  case inr =>
    rw [h1] at HV0
    have HV := Lib.hid HV0
    rw [(rr_bad h1).1, (rr_bad h1).2]
    clear h1 HV0
    go_enter Tryd.func4, Tryd.ntmps4
    go_wp2_with (go_at_call 8; refine (HV.out w.heap.size _ (by (go_simp <;> (intros; omega))) (by first | omega | (simp <;> omega))).mono ?_; rintro e w1 ⟨rfl, hb1⟩; have r1 := keep_rowA hb1; have f1 := keep_frA hb1; have s1 := hb1.size; (try simp only [World.size_alloc, World.size_setCell, setRow_size, World.size_drew, size_drewNm] at r1 f1 s1))
    refine bodyPost_ret (v := .tuple #[.agg (kc rk 64 fun _ => 0), .int .i64 1]) (res_ct rfl rfl (by (go_simp <;> (intros; omega))) rfl) rfl ⟨rfl, by repeat' (first | with_reducible exact Below.refl _ _ | with_reducible assumption | with_reducible refine Below.drew ?_ | with_reducible refine Below.drewN ?_ _ | with_reducible refine Below.alloc ?_ ?_ _ | with_reducible refine Below.setCell ?_ ?_ _ | with_reducible refine Below.setRow ?_ ?_ _ | with_reducible refine below_step (by assumption) ?_ ?_ | (show (_ : Nat) ≤ _; first | omega | (simp <;> omega)))⟩
  rw [h1] at HV0
  have HV := Lib.hid HV0
  clear HV0
  obtain ⟨W, H, hW, hH, W0, H0, W8, H8⟩ := okS_sides2 h1
  have HNO := Lib.hid (fun h => rr_no (t := t) h1 hW hH h)
  have HYES := Lib.hid (fun h => rr_yes (t := t) h1 hW hH h)
  clear h1
  go_enter Tryd.func4, Tryd.ntmps4
  go_wp2_with (go_at_call 8; refine (HV.out w.heap.size _ (by (go_simp <;> (intros; omega))) (by first | omega | (simp <;> omega))).mono ?_; rintro e w1 ⟨rfl, hb1⟩; have r1 := keep_rowA hb1; have f1 := keep_frA hb1; have s1 := hb1.size; (try simp only [World.size_alloc, World.size_setCell, setRow_size, World.size_drew, size_drewNm] at r1 f1 s1))
  go_loopw [7] (fun i wr => ∃ (y : Nat) (d : Nat → Int), y ≤ 8 ∧ i = .int .i64 y ∧ Below w.heap.size w wr ∧ w1.heap.size + 1 ≤ wr.heap.size ∧ rowOf wr w.heap.size = kc sk 266 c ∧ rowOf wr (w.heap.size + 1) = kc rk 64 (fun _ => 0) ∧ frOf wr (w.heap.size + 1) = (0, 0) ∧ rowOf wr w1.heap.size = kc rk 64 d ∧ frOf wr w1.heap.size = (0, 0) ∧ ∀ j, j < y * 8 → d j = -1) (fun i wr => 9 - (intOf i).toNat)
  case atStart => exact ⟨0, fun _ => 0, by omega, rfl, by repeat' (first | with_reducible exact Below.refl _ _ | with_reducible assumption | with_reducible refine Below.drew ?_ | with_reducible refine Below.drewN ?_ _ | with_reducible refine Below.alloc ?_ ?_ _ | with_reducible refine Below.setCell ?_ ?_ _ | with_reducible refine Below.setRow ?_ ?_ _ | with_reducible refine below_step (by assumption) ?_ ?_ | (show (_ : Nat) ≤ _; first | omega | (simp <;> omega))), by simp, by (go_simp <;> (intros; omega)), by (go_simp <;> (intros; omega)), by (go_simp <;> (intros; omega)), by (go_simp <;> (intros; omega)), by (go_simp <;> (intros; omega)), fun j hj => by omega⟩
  case round =>
    obtain ⟨y, d, hy, rfl, hb, hsz, hrS, hrZ, hfZ, hrB, hfB, hd⟩ := hrel
    have HD := Lib.hid hd
    clear hd
    have hsz0 := hb.size
    by_cases hy8 : y < 8
    · have hyd : (y : Int) < 8 := by omega
      have hwy : IntKind.i64.wrap ((y : Int) + 1) = (y : Int) + 1 := IntWalk.i64_in _ (by omega)
      go_wp2
      go_loopw [8] (fun i wx => ∃ (x : Nat) (e : Nat → Int), x ≤ 8 ∧ i = .int .i64 x ∧ Below w.heap.size w wx ∧ w1.heap.size + 1 ≤ wx.heap.size ∧ rowOf wx w.heap.size = kc sk 266 c ∧ rowOf wx (w.heap.size + 1) = kc rk 64 (fun _ => 0) ∧ frOf wx (w.heap.size + 1) = (0, 0) ∧ rowOf wx w1.heap.size = kc rk 64 e ∧ frOf wx w1.heap.size = (0, 0) ∧ ∀ j, j < y * 8 + x → e j = -1) (fun i wx => 9 - (intOf i).toNat)
      case atStart => exact ⟨0, d, by omega, rfl, hb, hsz, hrS, hrZ, hfZ, hrB, hfB, fun j hj => HD.out j (by omega)⟩
      case round =>
        clear hb hsz hrS hrZ hfZ hrB hfB hsz0
        obtain ⟨x, e, hx, rfl, hb, hsz, hrS, hrZ, hfZ, hrB, hfB, he⟩ := hrel
        have HE := Lib.hid he
        clear he
        have hsz0 := hb.size
        by_cases hx8 : x < 8
        · have hxd : (x : Int) < 8 := by omega
          have hwx : IntKind.i64.wrap ((x : Int) + 1) = (x : Int) + 1 := IntWalk.i64_in _ (by omega)
          have HU := Lib.hid (show ∀ j, j < y * 8 + (x + 1) → upI e (y * 8 + x) (-1) j = -1 from fun j hj => by
            unfold upI
            split
            · rfl
            · exact HE.out j (by omega))
          go_wp2
          go_roundw
          case rel => first | exact ⟨x + 1, upI e (y * 8 + x) (-1), by omega, by go_num, by repeat' (first | with_reducible exact Below.refl _ _ | with_reducible assumption | with_reducible refine Below.drew ?_ | with_reducible refine Below.drewN ?_ _ | with_reducible refine Below.alloc ?_ ?_ _ | with_reducible refine Below.setCell ?_ ?_ _ | with_reducible refine Below.setRow ?_ ?_ _ | with_reducible refine below_step (by assumption) ?_ ?_ | (show (_ : Nat) ≤ _; first | omega | (simp <;> omega))), by first | omega | (simp <;> omega), by (go_simp <;> (intros; omega)), by (go_simp <;> (intros; omega)), by (go_simp <;> (intros; omega)), by (go_simp <;> (intros; omega)), by (go_simp <;> (intros; omega)), HU.out⟩ | ((repeat (with_reducible apply Exists.intro)); refine And.intro ?_ ?_; rotate_left; (focus ((repeat' (with_reducible apply And.intro)) <;> rfl)); exact ⟨x + 1, upI e (y * 8 + x) (-1), by omega, by go_num, by repeat' (first | with_reducible exact Below.refl _ _ | with_reducible assumption | with_reducible refine Below.drew ?_ | with_reducible refine Below.drewN ?_ _ | with_reducible refine Below.alloc ?_ ?_ _ | with_reducible refine Below.setCell ?_ ?_ _ | with_reducible refine Below.setRow ?_ ?_ _ | with_reducible refine below_step (by assumption) ?_ ?_ | (show (_ : Nat) ≤ _; first | omega | (simp <;> omega))), by first | omega | (simp <;> omega), by (go_simp <;> (intros; omega)), by (go_simp <;> (intros; omega)), by (go_simp <;> (intros; omega)), by (go_simp <;> (intros; omega)), by (go_simp <;> (intros; omega)), HU.out⟩)
          case measure => simp [intOf]; omega
        · have hxe : x = 8 := by omega
          subst hxe
          go_wp2
          go_roundw
          case rel => first | exact ⟨y + 1, e, by omega, by go_num, by repeat' (first | with_reducible exact Below.refl _ _ | with_reducible assumption | with_reducible refine Below.drew ?_ | with_reducible refine Below.drewN ?_ _ | with_reducible refine Below.alloc ?_ ?_ _ | with_reducible refine Below.setCell ?_ ?_ _ | with_reducible refine Below.setRow ?_ ?_ _ | with_reducible refine below_step (by assumption) ?_ ?_ | (show (_ : Nat) ≤ _; first | omega | (simp <;> omega))), by omega, by (go_simp <;> (intros; omega)), by (go_simp <;> (intros; omega)), by (go_simp <;> (intros; omega)), by (go_simp <;> (intros; omega)), by (go_simp <;> (intros; omega)), fun j hj => HE.out j (by omega)⟩ | ((repeat (with_reducible apply Exists.intro)); refine And.intro ?_ ?_; rotate_left; (focus ((repeat' (with_reducible apply And.intro)) <;> rfl)); exact ⟨y + 1, e, by omega, by go_num, by repeat' (first | with_reducible exact Below.refl _ _ | with_reducible assumption | with_reducible refine Below.drew ?_ | with_reducible refine Below.drewN ?_ _ | with_reducible refine Below.alloc ?_ ?_ _ | with_reducible refine Below.setCell ?_ ?_ _ | with_reducible refine Below.setRow ?_ ?_ _ | with_reducible refine below_step (by assumption) ?_ ?_ | (show (_ : Nat) ≤ _; first | omega | (simp <;> omega))), by omega, by (go_simp <;> (intros; omega)), by (go_simp <;> (intros; omega)), by (go_simp <;> (intros; omega)), by (go_simp <;> (intros; omega)), by (go_simp <;> (intros; omega)), fun j hj => HE.out j (by omega)⟩)
          case measure => simp [intOf]; omega
    · have hye : y = 8 := by omega
      subst hye
      have hpos : 0 < (sp 10 t).length := List.length_pos_iff.2 (sp_ne 10 t)
      obtain ⟨m, hm⟩ : ∃ m, (sp 10 t).length = m + 1 := ⟨(sp 10 t).length - 1, by omega⟩
      have hsl := sp_len 10 t
      obtain ⟨lw, hlw⟩ : ∃ lw, (sp 10 t)[m]? = some lw := ⟨_, List.getElem?_eq_getElem (by omega)⟩
      have HLW := Lib.hid hlw
      have HS := Lib.hid (fun w => hm ▸ split10 t hl w)
      have HM := Lib.hid (fun x (h : x ∈ sp 10 t) => seg_le h)
      obtain ⟨L, hL⟩ : ∃ L, sp 10 t = L := ⟨_, rfl⟩
      have HL := Lib.hid hL
      rw [hL] at HS HLW HM hm hlw hsl
      clear hpos hL
      have hwm : IntKind.i64.wrap (((m + 1 : Nat) : Int) - 1) = (m : Int) := by rw [IntWalk.i64_in _ (by omega)]; omega
      have hwm2 : IntKind.i64.wrap (m : Int) = (m : Int) := IntWalk.i64_in _ (by omega)
      have hwH : IntKind.i64.wrap (H : Int) = (H : Int) := IntWalk.i64_in _ (by omega)
      have hwW : IntKind.i64.wrap (W : Int) = (W : Int) := IntWalk.i64_in _ (by omega)
      have hwc0 : IntKind.i64.wrap (c 0) = c 0 := by rw [hW]; exact hwW
      have hwc1 : IntKind.i64.wrap (c 1) = c 1 := by rw [hH]; exact hwH
      by_cases hl0 : lw = []
      case neg =>
        have HRD := Lib.hid (HNO.out (fun h => by
          rw [SOk, HL.out] at h
          obtain ⟨a1, a2, -⟩ := h
          obtain rfl : m = H := by omega
          rw [hlw] at a2
          exact hl0 (Option.some.inj a2)))
        have hne : (lw == []) = false := by rw [beq_eq_false_iff_ne]; exact hl0
        clear hlw
        go_wp2_with (go_at_call 9; (with_reducible refine (HS.out _).mono ?_); rintro e ws ⟨vW, rfl, hown, hbs⟩; have r_hbs := keep_rowA hbs; have f_hbs := keep_frA hbs; have s_hbs := hbs.size; (try simp only [World.size_alloc, World.size_setCell, setRow_size, World.size_drew, size_drewNm] at r_hbs f_hbs s_hbs); obtain ⟨g, cap, rfl, hg1, hg2, hgr⟩ := own_strs hown (Nat.succ_pos _); have HGR := Lib.hid hgr; obtain ⟨R, hR⟩ : ∃ R, rowOf ws g = R := ⟨_, rfl⟩; rw [hR] at HGR; have hRX : rowOfX ws g = R := hR; have hrm := HGR.out _ _ (by omega) HLW.out; clear hown hgr)
        refine bodyPost_ret (v := .tuple #[.agg (kc rk 64 fun _ => 0), .int .i64 5]) (res_ct rfl rfl (by (go_simp <;> (intros; omega))) rfl) rfl ⟨by rw [HRD.out.1, HRD.out.2], by repeat' (first | with_reducible exact Below.refl _ _ | with_reducible assumption | with_reducible refine Below.drew ?_ | with_reducible refine Below.drewN ?_ _ | with_reducible refine Below.alloc ?_ ?_ _ | with_reducible refine Below.setCell ?_ ?_ _ | with_reducible refine Below.setRow ?_ ?_ _ | with_reducible refine below_step (by assumption) ?_ ?_ | (show (_ : Nat) ≤ _; first | omega | (simp <;> omega)))⟩
      subst hl0
      by_cases hmH : m = H
      case neg =>
        have HRD := Lib.hid (HNO.out (fun h => by
          rw [SOk, HL.out] at h
          omega))
        have hne : ((m : Int) == (H : Int)) = false := by rw [beq_eq_false_iff_ne]; omega
        have hne2 : ¬ m = H := hmH
        have hne3 : ((m : Int) == c 1) = false := by rw [hH]; exact hne
        clear hlw
        go_wp2_with (go_at_call 9; (with_reducible refine (HS.out _).mono ?_); rintro e ws ⟨vW, rfl, hown, hbs⟩; have r_hbs := keep_rowA hbs; have f_hbs := keep_frA hbs; have s_hbs := hbs.size; (try simp only [World.size_alloc, World.size_setCell, setRow_size, World.size_drew, size_drewNm] at r_hbs f_hbs s_hbs); obtain ⟨g, cap, rfl, hg1, hg2, hgr⟩ := own_strs hown (Nat.succ_pos _); have HGR := Lib.hid hgr; obtain ⟨R, hR⟩ : ∃ R, rowOf ws g = R := ⟨_, rfl⟩; rw [hR] at HGR; have hRX : rowOfX ws g = R := hR; have hrm := HGR.out _ _ (by omega) HLW.out; clear hown hgr)
        refine bodyPost_ret (v := .tuple #[.agg (kc rk 64 fun _ => 0), .int .i64 5]) (res_ct rfl rfl (by (go_simp <;> (intros; omega))) rfl) rfl ⟨by rw [HRD.out.1, HRD.out.2], by repeat' (first | with_reducible exact Below.refl _ _ | with_reducible assumption | with_reducible refine Below.drew ?_ | with_reducible refine Below.drewN ?_ _ | with_reducible refine Below.alloc ?_ ?_ _ | with_reducible refine Below.setCell ?_ ?_ _ | with_reducible refine Below.setRow ?_ ?_ _ | with_reducible refine below_step (by assumption) ?_ ?_ | (show (_ : Nat) ≤ _; first | omega | (simp <;> omega)))⟩
      subst hmH
      have heq3 : ((m : Int) == c 1) = true := by rw [hH]; exact beq_self_eq_true _
      clear hlw
      go_wp2_with (go_at_call 9; (with_reducible refine (HS.out _).mono ?_); rintro e ws ⟨vW, rfl, hown, hbs⟩; have r_hbs := keep_rowA hbs; have f_hbs := keep_frA hbs; have s_hbs := hbs.size; (try simp only [World.size_alloc, World.size_setCell, setRow_size, World.size_drew, size_drewNm] at r_hbs f_hbs s_hbs); obtain ⟨g, cap, rfl, hg1, hg2, hgr⟩ := own_strs hown (Nat.succ_pos _); have HGR := Lib.hid hgr; obtain ⟨R, hR⟩ : ∃ R, rowOf ws g = R := ⟨_, rfl⟩; rw [hR] at HGR; have hRX : rowOfX ws g = R := hR; have hrm := HGR.out _ _ (by omega) HLW.out; clear hown hgr)
      have HD0 := Lib.hid (fun j (hj : j < 64) => HD.out j (by omega))
      have hbw : Below w.heap.size w ws := by repeat' (first | with_reducible exact Below.refl _ _ | with_reducible assumption | with_reducible refine Below.drew ?_ | with_reducible refine Below.drewN ?_ _ | with_reducible refine Below.alloc ?_ ?_ _ | with_reducible refine Below.setCell ?_ ?_ _ | with_reducible refine Below.setRow ?_ ?_ _ | with_reducible refine below_step (by assumption) ?_ ?_ | (show (_ : Nat) ≤ _; first | omega | (simp <;> omega)))
      have hgw1 : w1.heap.size + 1 ≤ g := by first | omega | (simp at hg1; omega)
      obtain ⟨G, hG⟩ : ∃ G, (L.take m).map (sp 32) = G := ⟨_, rfl⟩
      have HGG := Lib.hid hG
      clear hG
      go_loopw [11] (fun i wr => ∃ (y : Nat) (d : Nat → Int), y ≤ m ∧ i = .int .i64 y ∧ Below w.heap.size w wr ∧ rowOf wr w.heap.size = kc sk 266 c ∧ rowOf wr (w.heap.size + 1) = kc rk 64 (fun _ => 0) ∧ frOf wr (w.heap.size + 1) = (0, 0) ∧ rowOf wr w1.heap.size = kc rk 64 d ∧ frOf wr w1.heap.size = (0, 0) ∧ rowOf wr g = R ∧ ws.heap.size ≤ wr.heap.size ∧ (∀ k l, k < y → L[k]? = some l → rowOkS W l) ∧ ∀ j, j < 64 → d j = if j < y * 8 then gr rwV G j else -1) (fun i wr => 9 - (intOf i).toNat)
      case atStart => exact ⟨0, d, by omega, rfl, hbw, by (go_simp <;> (intros; omega)), by (go_simp <;> (intros; omega)), by (go_simp <;> (intros; omega)), by (go_simp <;> (intros; omega)), by (go_simp <;> (intros; omega)), hR, Nat.le_refl _, fun k l hk => by omega, fun j hj => by rw [if_neg (by omega)]; exact HD0.out j hj⟩
      case round =>
        clear hb hsz hrS hrZ hfZ hrB hfB hsz0 HD HD0 hy
        obtain ⟨y, d, hy, rfl, hb, hrS, hrZ, hfZ, hrB, hfB, hrR, hsz, hrow, hd⟩ := hrel
        have HROW := Lib.hid hrow
        have HD := Lib.hid hd
        clear hrow hd
        have hsz0 := hb.size
        by_cases hym : y < m
        · have hym2 : (y : Int) < (m : Int) := by omega
          obtain ⟨l, hl2⟩ : ∃ l, L[y]? = some l := ⟨_, List.getElem?_eq_getElem (by omega)⟩
          have hrl : R[y]? = some (.string (tx l)) := HGR.out y l (by omega) hl2
          have hll : l.length ≤ 1048576 := Nat.le_trans (HM.out l (List.mem_of_getElem? hl2)) hl
          have HS2 := Lib.hid (fun w => splitR l hll w)
          have HBADR := Lib.hid (fun h => HNO.out (rowOk_at (W := W) HL.out hym hl2 h))
          have HLY := Lib.hid hl2
          have hq0 : 0 < (sp 32 l).length := List.length_pos_iff.2 (sp_ne 32 l)
          have HM2 := Lib.hid (fun x (h : x ∈ sp 32 l) => seg_le h)
          clear hl2
          by_cases hln : (sp 32 l).length = W
          case neg =>
            have HRD := Lib.hid (HBADR.out (fun h => hln h.1))
            have hne : (((sp 32 l).length : Int) == (W : Int)) = false := by rw [beq_eq_false_iff_ne]; omega
            have hne3 : (((sp 32 l).length : Int) == c 0) = false := by rw [hW]; exact hne
            clear HM2
            generalize sp 32 l = P at *
            go_wp2_with (go_at_call 9; (with_reducible refine (HS2.out _).mono ?_); rintro e wq ⟨vQ, rfl, hownQ, hbq⟩; have r_hbq := keep_rowA hbq; have f_hbq := keep_frA hbq; have s_hbq := hbq.size; (try simp only [World.size_alloc, World.size_setCell, setRow_size, World.size_drew, size_drewNm] at r_hbq f_hbq s_hbq); obtain ⟨g2, cap2, rfl, hg21, hg22, -⟩ := own_strs hownQ hq0; clear hownQ)
            refine bodyPost_ret (v := .tuple #[.agg (kc rk 64 fun _ => 0), .int .i64 5]) (res_ct rfl rfl (by (go_simp <;> (intros; omega))) rfl) rfl ⟨by rw [HRD.out.1, HRD.out.2], by repeat' (first | with_reducible exact Below.refl _ _ | with_reducible assumption | with_reducible refine Below.drew ?_ | with_reducible refine Below.drewN ?_ _ | with_reducible refine Below.alloc ?_ ?_ _ | with_reducible refine Below.setCell ?_ ?_ _ | with_reducible refine Below.setRow ?_ ?_ _ | with_reducible refine below_step (by assumption) ?_ ?_ | (show (_ : Nat) ≤ _; first | omega | (simp <;> omega)))⟩
          have heq3 : ((W : Int) == c 0) = true := by rw [hW]; exact beq_self_eq_true _
          have HLN := Lib.hid hln
          rw [hln] at HS2
          obtain ⟨P, hP⟩ : ∃ P, sp 32 l = P := ⟨_, rfl⟩
          have HPP := Lib.hid hP
          rw [hP] at HS2 HM2
          clear hq0 hln hP
          obtain ⟨wo, rfl⟩ : ∃ wo, wo = wr := ⟨_, rfl⟩
          go_wp2_with (go_at_call 9; (with_reducible refine (HS2.out _).mono ?_); rintro e wq ⟨vQ, rfl, hownQ, hbq⟩; have r_hbq := keep_rowA hbq; have f_hbq := keep_frA hbq; have s_hbq := hbq.size; (try simp only [World.size_alloc, World.size_setCell, setRow_size, World.size_drew, size_drewNm] at r_hbq f_hbq s_hbq); obtain ⟨g2, cap2, rfl, hg21, hg22, hgr2⟩ := own_strs hownQ W0; have HGR2 := Lib.hid hgr2; obtain ⟨R2, hR2⟩ : ∃ R2, rowOf wq g2 = R2 := ⟨_, rfl⟩; rw [hR2] at HGR2; have hR2X : rowOfX wq g2 = R2 := hR2; clear hownQ hgr2)
          have hbwq : Below w.heap.size w wq := by repeat' (first | with_reducible exact Below.refl _ _ | with_reducible assumption | with_reducible refine Below.drew ?_ | with_reducible refine Below.drewN ?_ _ | with_reducible refine Below.alloc ?_ ?_ _ | with_reducible refine Below.setCell ?_ ?_ _ | with_reducible refine Below.setRow ?_ ?_ _ | with_reducible refine below_step (by assumption) ?_ ?_ | (show (_ : Nat) ≤ _; first | omega | (simp <;> omega)))
          have hqs : ws.heap.size ≤ wq.heap.size := by first | omega | (simp at *; omega)
          have hqo : ws.heap.size ≤ wo.heap.size := hsz
          have hgg : w1.heap.size < g ∧ w1.heap.size < g2 := by first | omega | (simp at *; omega)
          go_loopw [13] (fun i wx => ∃ (x : Nat) (d2 : Nat → Int), x ≤ W ∧ i = .int .i64 x ∧ Below w.heap.size w wx ∧ rowOf wx w.heap.size = kc sk 266 c ∧ rowOf wx (w.heap.size + 1) = kc rk 64 (fun _ => 0) ∧ frOf wx (w.heap.size + 1) = (0, 0) ∧ rowOf wx w1.heap.size = kc rk 64 d2 ∧ frOf wx w1.heap.size = (0, 0) ∧ rowOf wx g = R ∧ rowOf wx g2 = R2 ∧ wq.heap.size ≤ wx.heap.size ∧ (∀ j w, j < x → P[j]? = some w → rwS w ≠ none) ∧ ∀ j, j < 64 → d2 j = if j < y * 8 + x then gr rwV G j else -1) (fun i wx => 9 - (intOf i).toNat)
          case atStart => exact ⟨0, d, by omega, rfl, hbwq, by (go_simp <;> (intros; omega)), by (go_simp <;> (intros; omega)), by (go_simp <;> (intros; omega)), by (go_simp <;> (intros; omega)), by (go_simp <;> (intros; omega)), by (go_simp <;> (intros; omega)), hR2, Nat.le_refl _, fun j w hj => by omega, fun j hj => HD.out j hj⟩
          case round =>
            clear hb hrS hrZ hfZ hrB hfB hrR hsz hsz0
            obtain ⟨x, d2, hx, rfl, hb, hrS, hrZ, hfZ, hrB, hfB, hrR, hrP, hsz, hwd, hd2⟩ := hrel
            have HWD := Lib.hid hwd
            have HD2 := Lib.hid hd2
            clear hwd hd2
            have hsz0 := hb.size
            have hPl : P.length = W := by rw [← HPP.out]; exact HLN.out
            have HGY := Lib.hid (show G[y]? = some P by rw [← HGG.out, List.getElem?_map, List.getElem?_take, if_pos hym, HLY.out]; exact congrArg some HPP.out)
            by_cases hxW : x < W
            · have hxW2 : (x : Int) < (W : Int) := by omega
              obtain ⟨wd, hwd⟩ : ∃ wd, P[x]? = some wd := ⟨_, List.getElem?_eq_getElem (by omega)⟩
              have hrw : R2[x]? = some (.string (tx wd)) := HGR2.out x wd hxW hwd
              have hwl : wd.length ≤ 1048576 := Nat.le_trans (HM2.out wd (List.mem_of_getElem? hwd)) hll
              have HGV := Lib.hid (show gr rwV G (y * 8 + x) = rwV wd from (gr_at _ _ (by omega)).trans (gv_word HGY.out hwd))
              have HBW := Lib.hid (fun (h : rwS wd = none) => HBADR.out (fun g => g.2 wd (by rw [HPP.out]; exact List.mem_of_getElem? hwd) h))
              have HNX := Lib.hid (fun (h : rwS wd ≠ none) => show ∀ j w, j < x + 1 → P[j]? = some w → rwS w ≠ none from fun j w hj hw => by
                rcases Nat.lt_succ_iff_lt_or_eq.1 hj with h2 | rfl
                · exact HWD.out j w h2 hw
                · rw [hwd] at hw
                  obtain rfl := Option.some.inj hw
                  exact h)
              clear hwd
              by_cases h45 : wd = [45]
              · have hs : rwS wd = some (-1) := by rw [h45]; rfl
                have HN2 := Lib.hid (HNX.out (by rw [hs]; exact fun e => by cases e))
                have HDN := Lib.hid (show ∀ j, j < 64 → d2 j = if j < y * 8 + (x + 1) then gr rwV G j else -1 from fun j hj => by
                  rw [HD2.out j hj]
                  by_cases h1 : j < y * 8 + x
                  · rw [if_pos h1, if_pos (by omega)]
                  · rw [if_neg h1]
                    by_cases h2 : j < y * 8 + (x + 1)
                    · obtain rfl : j = y * 8 + x := by omega
                      rw [if_pos h2, HGV.out]
                      unfold rwV
                      rw [hs]; rfl
                    · rw [if_neg h2])
                have hwb : (wd == [45]) = true := by rw [h45]; exact beq_self_eq_true _
                clear hs h45
                go_wp2
                go_roundw
                case rel => first | exact ⟨x + 1, d2, by omega, by go_num, by repeat' (first | with_reducible exact Below.refl _ _ | with_reducible assumption | with_reducible refine Below.drew ?_ | with_reducible refine Below.drewN ?_ _ | with_reducible refine Below.alloc ?_ ?_ _ | with_reducible refine Below.setCell ?_ ?_ _ | with_reducible refine Below.setRow ?_ ?_ _ | with_reducible refine below_step (by assumption) ?_ ?_ | (show (_ : Nat) ≤ _; first | omega | (simp <;> omega))), by (go_simp <;> (intros; omega)), by (go_simp <;> (intros; omega)), by (go_simp <;> (intros; omega)), by (go_simp <;> (intros; omega)), by (go_simp <;> (intros; omega)), by (go_simp <;> (intros; omega)), by (go_simp <;> (intros; omega)), by first | omega | (simp <;> omega), HN2.out, HDN.out⟩ | ((repeat (with_reducible apply Exists.intro)); refine And.intro ?_ ?_; rotate_left; (focus ((repeat' (with_reducible apply And.intro)) <;> rfl)); exact ⟨x + 1, d2, by omega, by go_num, by repeat' (first | with_reducible exact Below.refl _ _ | with_reducible assumption | with_reducible refine Below.drew ?_ | with_reducible refine Below.drewN ?_ _ | with_reducible refine Below.alloc ?_ ?_ _ | with_reducible refine Below.setCell ?_ ?_ _ | with_reducible refine Below.setRow ?_ ?_ _ | with_reducible refine below_step (by assumption) ?_ ?_ | (show (_ : Nat) ≤ _; first | omega | (simp <;> omega))), by (go_simp <;> (intros; omega)), by (go_simp <;> (intros; omega)), by (go_simp <;> (intros; omega)), by (go_simp <;> (intros; omega)), by (go_simp <;> (intros; omega)), by (go_simp <;> (intros; omega)), by (go_simp <;> (intros; omega)), by first | omega | (simp <;> omega), HN2.out, HDN.out⟩)
                case measure => simp [intOf]; omega
              have hwb : (wd == [45]) = false := by rw [beq_eq_false_iff_ne]; exact h45
              obtain ⟨a, ba, hA, hA1, hA2⟩ := numV_is wd
              have HNU := Lib.hid (fun w => hA ▸ l01Number_any wd hwl w)
              clear hA
              by_cases hf : ba = false
              · have HRD := Lib.hid (HBW.out (by unfold rwS; rw [if_neg h45, hA2 hf]))
                subst hf
                clear hA1 hA2
                go_wp2_with (go_at_call 10; (with_reducible refine (HNU.out _).mono ?_); rintro e wn ⟨rfl, hbn⟩; have r_hbn := keep_rowA hbn; have f_hbn := keep_frA hbn; have s_hbn := hbn.size; (try simp only [World.size_alloc, World.size_setCell, setRow_size, World.size_drew, size_drewNm] at r_hbn f_hbn s_hbn))
                refine bodyPost_ret (v := .tuple #[.agg (kc rk 64 fun _ => 0), .int .i64 5]) (res_ct rfl rfl (by (go_simp <;> (intros; omega))) rfl) rfl ⟨by rw [HRD.out.1, HRD.out.2], by repeat' (first | with_reducible exact Below.refl _ _ | with_reducible assumption | with_reducible refine Below.drew ?_ | with_reducible refine Below.drewN ?_ _ | with_reducible refine Below.alloc ?_ ?_ _ | with_reducible refine Below.setCell ?_ ?_ _ | with_reducible refine Below.setRow ?_ ?_ _ | with_reducible refine below_step (by assumption) ?_ ?_ | (show (_ : Nat) ≤ _; first | omega | (simp <;> omega)))⟩
              obtain rfl : ba = true := by cases ba <;> first | rfl | (exact absurd rfl hf)
              obtain ⟨n, rfl, hNA⟩ := hA1 rfl
              clear hf hA1 hA2
              by_cases h5 : 500 < n
              · have HRD := Lib.hid (HBW.out (by unfold rwS; rw [if_neg h45, hNA]; exact if_neg (by omega)))
                have h5' : (500 : Int) < (n : Int) := by omega
                go_wp2_with (go_at_call 10; (with_reducible refine (HNU.out _).mono ?_); rintro e wn ⟨rfl, hbn⟩; have r_hbn := keep_rowA hbn; have f_hbn := keep_frA hbn; have s_hbn := hbn.size; (try simp only [World.size_alloc, World.size_setCell, setRow_size, World.size_drew, size_drewNm] at r_hbn f_hbn s_hbn))
                refine bodyPost_ret (v := .tuple #[.agg (kc rk 64 fun _ => 0), .int .i64 5]) (res_ct rfl rfl (by (go_simp <;> (intros; omega))) rfl) rfl ⟨by rw [HRD.out.1, HRD.out.2], by repeat' (first | with_reducible exact Below.refl _ _ | with_reducible assumption | with_reducible refine Below.drew ?_ | with_reducible refine Below.drewN ?_ _ | with_reducible refine Below.alloc ?_ ?_ _ | with_reducible refine Below.setCell ?_ ?_ _ | with_reducible refine Below.setRow ?_ ?_ _ | with_reducible refine below_step (by assumption) ?_ ?_ | (show (_ : Nat) ≤ _; first | omega | (simp <;> omega)))⟩
              have hs : rwS wd = some (n : Int) := by unfold rwS; rw [if_neg h45, hNA]; exact if_pos (by omega)
              have HN2 := Lib.hid (HNX.out (by rw [hs]; exact fun e => by cases e))
              have HDN := Lib.hid (show ∀ j, j < 64 → upI d2 (y * 8 + x) (n : Int) j = if j < y * 8 + (x + 1) then gr rwV G j else -1 from fun j hj => by
                unfold upI
                by_cases h1 : j = y * 8 + x
                · subst h1
                  rw [if_pos rfl, if_pos (by omega), HGV.out]
                  unfold rwV
                  rw [hs]; rfl
                · rw [if_neg h1, HD2.out j hj]
                  by_cases h2 : j < y * 8 + x
                  · rw [if_pos h2, if_pos (by omega)]
                  · rw [if_neg h2, if_neg (by omega)])
              have h5' : ¬ (500 : Int) < (n : Int) := by omega
              have hw16 : IntKind.i16.wrap (n : Int) = (n : Int) := by simp only [IntKind.wrap, IntKind.bits, IntKind.signed]; simp; omega
              clear hs h45 hNA
              go_wp2_with (go_at_call 10; (with_reducible refine (HNU.out _).mono ?_); rintro e wn ⟨rfl, hbn⟩; have r_hbn := keep_rowA hbn; have f_hbn := keep_frA hbn; have s_hbn := hbn.size; (try simp only [World.size_alloc, World.size_setCell, setRow_size, World.size_drew, size_drewNm] at r_hbn f_hbn s_hbn))
              go_roundw
              case rel => first | exact ⟨x + 1, upI d2 (y * 8 + x) (n : Int), by omega, by go_num, by repeat' (first | with_reducible exact Below.refl _ _ | with_reducible assumption | with_reducible refine Below.drew ?_ | with_reducible refine Below.drewN ?_ _ | with_reducible refine Below.alloc ?_ ?_ _ | with_reducible refine Below.setCell ?_ ?_ _ | with_reducible refine Below.setRow ?_ ?_ _ | with_reducible refine below_step (by assumption) ?_ ?_ | (show (_ : Nat) ≤ _; first | omega | (simp <;> omega))), by (go_simp <;> (intros; omega)), by (go_simp <;> (intros; omega)), by (go_simp <;> (intros; omega)), by (go_simp <;> (intros; omega)), by (go_simp <;> (intros; omega)), by (go_simp <;> (intros; omega)), by (go_simp <;> (intros; omega)), by first | omega | (simp <;> omega), HN2.out, HDN.out⟩ | ((repeat (with_reducible apply Exists.intro)); refine And.intro ?_ ?_; rotate_left; (focus ((repeat' (with_reducible apply And.intro)) <;> rfl)); exact ⟨x + 1, upI d2 (y * 8 + x) (n : Int), by omega, by go_num, by repeat' (first | with_reducible exact Below.refl _ _ | with_reducible assumption | with_reducible refine Below.drew ?_ | with_reducible refine Below.drewN ?_ _ | with_reducible refine Below.alloc ?_ ?_ _ | with_reducible refine Below.setCell ?_ ?_ _ | with_reducible refine Below.setRow ?_ ?_ _ | with_reducible refine below_step (by assumption) ?_ ?_ | (show (_ : Nat) ≤ _; first | omega | (simp <;> omega))), by (go_simp <;> (intros; omega)), by (go_simp <;> (intros; omega)), by (go_simp <;> (intros; omega)), by (go_simp <;> (intros; omega)), by (go_simp <;> (intros; omega)), by (go_simp <;> (intros; omega)), by (go_simp <;> (intros; omega)), by first | omega | (simp <;> omega), HN2.out, HDN.out⟩)
              case measure => simp [intOf]; omega
            · have hxe : x = W := by omega
              subst hxe
              have hd3 : decide ((x : Int) < (x : Int)) = false := decide_eq_false (by omega)
              have HR2 := Lib.hid (show ∀ k l, k < y + 1 → L[k]? = some l → rowOkS x l from fun k l' hk hl' => by
                rcases Nat.lt_succ_iff_lt_or_eq.1 hk with h2 | rfl
                · exact HROW.out k l' h2 hl'
                · rw [HLY.out] at hl'
                  obtain rfl := Option.some.inj hl'
                  refine ⟨HLN.out, fun w hw => ?_⟩
                  rw [HPP.out] at hw
                  obtain ⟨j, hj, rfl⟩ := List.getElem_of_mem hw
                  exact HWD.out j _ (by omega) (List.getElem?_eq_getElem hj))
              have HDN := Lib.hid (show ∀ j, j < 64 → d2 j = if j < (y + 1) * 8 then gr rwV G j else -1 from fun j hj => by
                rw [HD2.out j hj]
                by_cases h1 : j < y * 8 + x
                · rw [if_pos h1, if_pos (by omega)]
                · rw [if_neg h1]
                  by_cases h2 : j < (y + 1) * 8
                  · rw [if_pos h2]
                    have e : j = y * 8 + (j - y * 8) := by omega
                    rw [e, gr_at _ _ (by omega)]
                    unfold gv
                    rw [HGY.out]
                    simp only
                    rw [List.getElem?_eq_none (by omega)]
                  · rw [if_neg h2])
              go_wp2
              go_roundw
              case rel => first | exact ⟨y + 1, d2, by omega, by go_num, by repeat' (first | with_reducible exact Below.refl _ _ | with_reducible assumption | with_reducible refine Below.drew ?_ | with_reducible refine Below.drewN ?_ _ | with_reducible refine Below.alloc ?_ ?_ _ | with_reducible refine Below.setCell ?_ ?_ _ | with_reducible refine Below.setRow ?_ ?_ _ | with_reducible refine below_step (by assumption) ?_ ?_ | (show (_ : Nat) ≤ _; first | omega | (simp <;> omega))), by (go_simp <;> (intros; omega)), by (go_simp <;> (intros; omega)), by (go_simp <;> (intros; omega)), by (go_simp <;> (intros; omega)), by (go_simp <;> (intros; omega)), by (go_simp <;> (intros; omega)), by first | omega | (simp <;> omega), HR2.out, HDN.out⟩ | ((repeat (with_reducible apply Exists.intro)); refine And.intro ?_ ?_; rotate_left; (focus ((repeat' (with_reducible apply And.intro)) <;> rfl)); exact ⟨y + 1, d2, by omega, by go_num, by repeat' (first | with_reducible exact Below.refl _ _ | with_reducible assumption | with_reducible refine Below.drew ?_ | with_reducible refine Below.drewN ?_ _ | with_reducible refine Below.alloc ?_ ?_ _ | with_reducible refine Below.setCell ?_ ?_ _ | with_reducible refine Below.setRow ?_ ?_ _ | with_reducible refine below_step (by assumption) ?_ ?_ | (show (_ : Nat) ≤ _; first | omega | (simp <;> omega))), by (go_simp <;> (intros; omega)), by (go_simp <;> (intros; omega)), by (go_simp <;> (intros; omega)), by (go_simp <;> (intros; omega)), by (go_simp <;> (intros; omega)), by (go_simp <;> (intros; omega)), by first | omega | (simp <;> omega), HR2.out, HDN.out⟩)
              case measure => simp [intOf]; omega
        · have hye : y = m := by omega
          subst hye
          have hd2 : decide ((y : Int) < (y : Int)) = false := decide_eq_false (by omega)
          have hSOk : SOk W y t := by
            rw [SOk, HL.out]
            exact ⟨hm, HLW.out, fun l hl' => by
              obtain ⟨k, hk, rfl⟩ := List.getElem_of_mem hl'
              rw [List.length_take] at hk
              rw [List.getElem_take]
              exact HROW.out k _ (by omega) (List.getElem?_eq_getElem (by omega))⟩
          have HRD := Lib.hid (HYES.out hSOk)
          obtain ⟨L', hl1, hl2, -, hl4, hl5⟩ := SOk_lines hSOk (by omega)
          have hLL : L.take y = L' := by rw [← HL.out, hl5, List.take_left' hl1]
          have hke : kc rk 64 d = kc rk 64 (gr rwI (iG t)) := kc_ext (fun j hj => by
            have hq := (grid_in hl2 (j / 8) (j % 8)).2.1
            rw [HD.out j hj, hl4, ← HGG.out, hLL]
            by_cases h1 : j < y * 8
            · rw [if_pos h1]; exact hq
            · rw [if_neg h1]
              have := (grid_in hl2 (j / 8) (j % 8)).2.2 (by omega)
              exact this.symm)
          have HKE := Lib.hid hke
          clear hSOk hl1 hl2 hl4 hl5 hLL hke
          go_wp2
          refine bodyPost_ret (v := .tuple #[.agg (kc rk 64 d), .int .i64 0]) (res_ct rfl rfl (by (go_simp <;> (intros; omega))) rfl) rfl ⟨by rw [HRD.out.1, HRD.out.2, HKE.out], by repeat' (first | with_reducible exact Below.refl _ _ | with_reducible assumption | with_reducible refine Below.drew ?_ | with_reducible refine Below.drewN ?_ _ | with_reducible refine Below.alloc ?_ ?_ _ | with_reducible refine Below.setCell ?_ ?_ _ | with_reducible refine Below.setRow ?_ ?_ _ | with_reducible refine below_step (by assumption) ?_ ?_ | (show (_ : Nat) ≤ _; first | omega | (simp <;> omega)))⟩
end Go.Proofs.YtkdfkhjoijfcdaaDoor
