/- Several texts in one: OrdS OrdT OrdF CoS SurS ForS. -/
import Derived.Test.YtejnejplofddnaaGreatDoorGqJ
import Derived.Test.YtejnejplofddnaaGreatDoorGqK
import Derived.Test.YtejnejplofddnaaGreatDoorGqV
import Derived.Test.YtejnejplofddnaaGreatDoorWaterI
import Derived.BigQuiet
import Derived.Deep.QuietTactic
import Derived.Test.YtejnejplofddnaaGreatDoorGqD
/- The orders in which marks make a picture: both sides. Written by gen_orders.py. -/
namespace Go.Proofs.YtejnejplofddnaaGreatDoor
open Go.RowKit
set_option linter.unusedVariables false
set_option linter.unusedSimpArgs false
set_option maxRecDepth 100000
/-- The picture that marks make in an order is this one. -/
def okPic (c : Nat → Int) (F : Nat → Mk) (W H : Nat) (P : List (List UInt8)) (l : List Nat) : Bool := eqL (linB (chP c (pntG F l)) W H) P
theorem ordTo_len {ok : List Nat → Bool} {n d k : Nat} {l m : List Nat} (h : m ∈ ordTo ok n d l k) : m.length = l.length + 1 + d := by
  unfold ordTo at h
  obtain ⟨i, -, h⟩ := List.mem_flatMap.1 h
  split at h
  · cases h
  · have := (ordL_len h).1
    rw [List.length_append, List.length_singleton] at this
    exact this
theorem ordTo_few {ok : List Nat → Bool} {n d k : Nat} {l : List Nat} (hn : n ≤ 6) (hk : k ≤ n) (hd : d ≤ 6) : (ordTo ok n d l k).length ≤ 300000 := by
  have key : ∀ k, k ≤ n → (ordTo ok n d l k).length ≤ k * 6 ^ d := by
    intro k
    induction k with
    | zero => intro _; simp [ordTo]
    | succ k ih =>
      intro hk
      have := ih (by omega)
      by_cases hm : k ∈ l
      · rw [ordTo_in hm, Nat.succ_mul]; exact Nat.le_trans this (Nat.le_add_right _ _)
      · rw [ordTo_out hm, List.length_append, Nat.succ_mul]
        have h3 := ordL_few ok hn d (l ++ [k])
        generalize 6 ^ d = P at *
        omega
  have h1 := key k hk
  have h2 : k * 6 ^ d ≤ 6 * 6 ^ 6 := Nat.mul_le_mul (by omega) (Nat.pow_le_pow_right (by decide) hd)
  have h3 : 6 * 6 ^ 6 = 279936 := by decide
  omega
theorem odL_len (D : Od) : (odL D).length = D.length := by unfold odL; rw [List.length_map]
theorem od_pos {D : Od} {L : List (List Nat)} {m : Nat} (h : odL D = L) (hL : ∀ x ∈ L, x.length = m) (hm : 0 < m) : ∀ q ∈ D, 0 < q.2.length := fun q hq => by
  have := hL q.2 (by rw [← h]; exact List.mem_map.2 ⟨q, hq, rfl⟩)
  omega
theorem i64s_info : ∃ i z, Tryz.prog.info? 37 = some i ∧ i.zero = some z ∧ i.size = 1 ∧ i.bytes = 24 ∧ z.cells.size = 1 := by
  have h : (match Tryz.prog.info? 37 with | some i => (match i.zero with | some z => i.size == 1 && i.bytes == 24 && z.cells.size == 1 | none => false) | none => false) = true := by kernel_rfl
  split at h
  · rename_i i hi
    split at h
    · rename_i z hz
      simp only [Bool.and_eq_true, beq_iff_eq] at h
      exact ⟨i, z, hi, hz, h.1.1, h.1.2, h.2⟩
    · cases h
  · cases h
theorem size_marks (v : Value) (b n : Nat) (F : Nat → Mk) (w : World) (h : OwnM w b v n F) : Calls Tryz.prog 68 #[v] w fun e w' => e = .returned (.int .i64 (n : Int)) ∧ w = w' := by
  obtain ⟨a, cap, rfl⟩ := h.1.len
  clear h
  go_enter Tryz.func68, Tryz.ntmps68
  go_wp2
  go_ret
  exact ⟨rfl, rfl⟩
set_option maxHeartbeats 8000000 in
theorem l06Orders_any (p : Nat) (c : Nat → Int) (hfc : FitSheet c) (W H : Nat) (hW : c 0 = W) (hH : c 1 = H) (W0 : 0 < W) (W8 : W ≤ 8) (H0 : 0 < H) (H8 : H ≤ 8) (v : Value) (n b : Nat) (F : Nat → Mk) (hn : n ≤ 6) (hF : ∀ k, k < n → MkLay (F k)) (pv : Value) (bp : Nat) (P : List (List UInt8)) (hP : P.length ≤ 1048576) :
    ∀ (d : Nat) (l : List Nat) (lv : Value) (bl B : Nat) (w : World), l.length + d = n → B ≤ bl → B ≤ w.heap.size → (∀ i ∈ l, i < n) → rowOf w p = kc sk 266 c → p < w.heap.size → OwnM w b v n F → OwnT w bp pv P → OwnK .i64 1 w bl lv l.length (nl l) →
    Calls Tryz.prog 48 #[.pointer (some ⟨p, 0, none⟩), v, pv, lv] w fun e w' => ∃ (v' : Value) (D : Od), e = .returned v' ∧ w'.ownsRow w.heap.size 37 1 v' D.length (odV D) ∧ odL D = ordL (okPic c F W H P) n d l ∧ OdW w' B D ∧ Below w.heap.size w w' := by
  intro d
  induction d with
  | zero =>
    intro l lv bl B w hd hB1 hB2 hli hr hp hm hpv hlv
    have hq : ((l.length : Int) == (n : Int)) = true := by rw [beq_iff_eq]; omega
    have hq2 : (l.length : Int) = (n : Int) := by omega
    have hPT0 := fun w2 h1 h2 h3 h4 => l06Paint_any p c hfc W H hW hH W0 W8 H8 v n b F (by omega) hF lv bl l (by omega) hli w2 h1 h2 h3 h4
    have HPT := Lib.hid hPT0
    have hln : (linB (chP c (pntG F l)) W H).length = H := linB_len _ _ _
    have HSM0 := fun v1 v2 b1 b2 w h1 h2 => l06Same_any v1 v2 b1 b2 (linB (chP c (pntG F l)) W H) P (by omega) hP w h1 h2
    rw [show eqL (linB (chP c (pntG F l)) W H) P = okPic c F W H P l from rfl] at HSM0
    have HST := Lib.hid (fun (w2 : World) (B : Nat) (v2 : Value) (h : w2.ownsRow B 9 1 v2 H (strV (linB (chP c (pntG F l)) W H))) => OwnT.of (L := linB (chP c (pntG F l)) W H) (by rw [hln]; exact h))
    have HM := Lib.hid hm
    have HL := Lib.hid hlv
    have HPV := Lib.hid hpv
    have HE := Lib.hid (show ordL (okPic c F W H P) n 0 l = if okPic c F W H P l = true then [l] else [] from rfl)
    obtain ⟨i0, z0, hi0, hz0, hs0, hb0, hc0⟩ := i64s_info
    have HI := Lib.hid (And.intro hi0 (And.intro hz0 (And.intro hs0 (And.intro hb0 hc0))))
    obtain ⟨am, cm, rfl⟩ := hm.1.len
    obtain ⟨al, cl, rfl⟩ := hlv.len
    clear hPT0 hln hm hlv hpv hi0 hz0 hs0 hb0 hc0
    generalize okPic c F W H P l = z at *
    have HSM := Lib.hid HSM0
    clear HSM0
    cases z with
    | true =>
      go_enter Tryz.func48, Tryz.ntmps48
      go_wp2_with (first | (go_at_call 46; refine (HPT.out _ (by (go_simp <;> (intros; omega))) (by first | omega | (simp <;> omega)) (HM.out.below (by repeat' (first | with_reducible exact Below.refl _ _ | with_reducible assumption | with_reducible refine Below.drew ?_ | with_reducible refine Below.drewN ?_ _ | with_reducible refine Below.alloc ?_ ?_ _ | with_reducible refine Below.setCell ?_ ?_ _ | with_reducible refine Below.setRow ?_ ?_ _ | with_reducible refine below_step (by assumption) ?_ ?_ | (show (_ : Nat) ≤ _; first | omega | (simp <;> omega)))) (Nat.le_refl _)) (HL.out.below (by repeat' (first | with_reducible exact Below.refl _ _ | with_reducible assumption | with_reducible refine Below.drew ?_ | with_reducible refine Below.drewN ?_ _ | with_reducible refine Below.alloc ?_ ?_ _ | with_reducible refine Below.setCell ?_ ?_ _ | with_reducible refine Below.setRow ?_ ?_ _ | with_reducible refine below_step (by assumption) ?_ ?_ | (show (_ : Nat) ≤ _; first | omega | (simp <;> omega)))) (Nat.le_refl _))).mono ?_; rintro e w1 ⟨v1, rfl, hown1, hb1⟩; have H1 := Lib.hid (HST.out _ _ _ hown1); clear hown1; have r_hb1 := keep_rowA hb1; have f_hb1 := keep_frA hb1; have s_hb1 := hb1.size; (try simp only [World.size_alloc, World.size_setCell, setRow_size, World.size_drew, size_drewNm] at r_hb1 f_hb1 s_hb1)) | (go_at_call 52; refine (HSM.out _ _ _ _ _ H1.out (HPV.out.below (by repeat' (first | with_reducible exact Below.refl _ _ | with_reducible assumption | with_reducible refine Below.drew ?_ | with_reducible refine Below.drewN ?_ _ | with_reducible refine Below.alloc ?_ ?_ _ | with_reducible refine Below.setCell ?_ ?_ _ | with_reducible refine Below.setRow ?_ ?_ _ | with_reducible refine below_step (by assumption) ?_ ?_ | (show (_ : Nat) ≤ _; first | omega | (simp <;> omega)))) (Nat.le_refl _))).mono ?_; rintro e w2 ⟨rfl, hb2⟩; have r_hb2 := keep_rowA hb2; have f_hb2 := keep_frA hb2; have s_hb2 := hb2.size; (try simp only [World.size_alloc, World.size_setCell, setRow_size, World.size_drew, size_drewNm] at r_hb2 f_hb2 s_hb2)) | (at_builtin; refine wpList_append_own _ rfl _ _ 87 rfl w.heap.size 37 i0 z0 1 24 Tryz.underlying87 HI.out.1 HI.out.2.1 HI.out.2.2.1 HI.out.2.2.2.1 HI.out.2.2.2.2 (by decide) _ _ _ rfl ((owns_below (owns_empty1 w _) (by repeat' (first | with_reducible exact Below.refl _ _ | with_reducible assumption | with_reducible refine Below.drew ?_ | with_reducible refine Below.drewN ?_ _ | with_reducible refine Below.alloc ?_ ?_ _ | with_reducible refine Below.setCell ?_ ?_ _ | with_reducible refine Below.setRow ?_ ?_ _ | with_reducible refine below_step (by assumption) ?_ ?_ | (show (_ : Nat) ≤ _; first | omega | (simp <;> omega))))).alloc _) ⟨w2.heap.size, 0, none⟩ 1 1 [.slice al l.length cl] rfl rfl ?c1 ?c2 ?c3 ?c4 ?c5 ?_))
      case c1 =>
        intro j u hj
        match j, hj with
        | 0, hj => simp at hj; subst hj; simp [Addr.add]
      case c2 => intro u hu; simp at hu; subst hu; rfl
      case c3 => unfold maxLen; omega
      case c4 => omega
      case c5 => first | omega | (simp <;> omega)
      intro v3 w3 hown3 hgrow3 _
      have hbg : Below w.heap.size w w3 := below_grown (Below.alloc (by repeat' (first | with_reducible exact Below.refl _ _ | with_reducible assumption | with_reducible refine Below.drew ?_ | with_reducible refine Below.drewN ?_ _ | with_reducible refine Below.alloc ?_ ?_ _ | with_reducible refine Below.setCell ?_ ?_ _ | with_reducible refine Below.setRow ?_ ?_ _ | with_reducible refine below_step (by assumption) ?_ ?_ | (show (_ : Nat) ≤ _; first | omega | (simp <;> omega)))) (by first | omega | (simp <;> omega)) _) hgrow3 (fun k hk => by simp [Value.ownBlock] at hk; omega) (by first | omega | (simp <;> omega))
      have HX := Lib.hid hown3
      have HB := Lib.hid hbg
      clear hown3 hgrow3 hbg
      go_wp2
      go_ret
      exact ⟨_, [(.slice al l.length cl, l)], rfl, HX.out, by rw [HE.out]; rfl, (fun q hq => by rw [List.mem_singleton.1 hq]; exact (HL.out.below HB.out (Nat.le_refl _)).down hB1), HB.out⟩
    | false =>
      go_enter Tryz.func48, Tryz.ntmps48
      go_wp2_with (first | (go_at_call 46; refine (HPT.out _ (by (go_simp <;> (intros; omega))) (by first | omega | (simp <;> omega)) (HM.out.below (by repeat' (first | with_reducible exact Below.refl _ _ | with_reducible assumption | with_reducible refine Below.drew ?_ | with_reducible refine Below.drewN ?_ _ | with_reducible refine Below.alloc ?_ ?_ _ | with_reducible refine Below.setCell ?_ ?_ _ | with_reducible refine Below.setRow ?_ ?_ _ | with_reducible refine below_step (by assumption) ?_ ?_ | (show (_ : Nat) ≤ _; first | omega | (simp <;> omega)))) (Nat.le_refl _)) (HL.out.below (by repeat' (first | with_reducible exact Below.refl _ _ | with_reducible assumption | with_reducible refine Below.drew ?_ | with_reducible refine Below.drewN ?_ _ | with_reducible refine Below.alloc ?_ ?_ _ | with_reducible refine Below.setCell ?_ ?_ _ | with_reducible refine Below.setRow ?_ ?_ _ | with_reducible refine below_step (by assumption) ?_ ?_ | (show (_ : Nat) ≤ _; first | omega | (simp <;> omega)))) (Nat.le_refl _))).mono ?_; rintro e w1 ⟨v1, rfl, hown1, hb1⟩; have H1 := Lib.hid (HST.out _ _ _ hown1); clear hown1; have r_hb1 := keep_rowA hb1; have f_hb1 := keep_frA hb1; have s_hb1 := hb1.size; (try simp only [World.size_alloc, World.size_setCell, setRow_size, World.size_drew, size_drewNm] at r_hb1 f_hb1 s_hb1)) | (go_at_call 52; refine (HSM.out _ _ _ _ _ H1.out (HPV.out.below (by repeat' (first | with_reducible exact Below.refl _ _ | with_reducible assumption | with_reducible refine Below.drew ?_ | with_reducible refine Below.drewN ?_ _ | with_reducible refine Below.alloc ?_ ?_ _ | with_reducible refine Below.setCell ?_ ?_ _ | with_reducible refine Below.setRow ?_ ?_ _ | with_reducible refine below_step (by assumption) ?_ ?_ | (show (_ : Nat) ≤ _; first | omega | (simp <;> omega)))) (Nat.le_refl _))).mono ?_; rintro e w2 ⟨rfl, hb2⟩; have r_hb2 := keep_rowA hb2; have f_hb2 := keep_frA hb2; have s_hb2 := hb2.size; (try simp only [World.size_alloc, World.size_setCell, setRow_size, World.size_drew, size_drewNm] at r_hb2 f_hb2 s_hb2)))
      go_ret
      exact ⟨_, [], rfl, owns_below (owns_empty1 w _) (by repeat' (first | with_reducible exact Below.refl _ _ | with_reducible assumption | with_reducible refine Below.drew ?_ | with_reducible refine Below.drewN ?_ _ | with_reducible refine Below.alloc ?_ ?_ _ | with_reducible refine Below.setCell ?_ ?_ _ | with_reducible refine Below.setRow ?_ ?_ _ | with_reducible refine below_step (by assumption) ?_ ?_ | (show (_ : Nat) ≤ _; first | omega | (simp <;> omega)))), by rw [HE.out]; rfl, (fun q hq => by cases hq), by repeat' (first | with_reducible exact Below.refl _ _ | with_reducible assumption | with_reducible refine Below.drew ?_ | with_reducible refine Below.drewN ?_ _ | with_reducible refine Below.alloc ?_ ?_ _ | with_reducible refine Below.setCell ?_ ?_ _ | with_reducible refine Below.setRow ?_ ?_ _ | with_reducible refine below_step (by assumption) ?_ ?_ | (show (_ : Nat) ≤ _; first | omega | (simp <;> omega)))⟩
  | succ d ih =>
    intro l lv bl B w hd hB1 hB2 hli hr hp hm hpv hlv
    have hq : ((l.length : Int) == (n : Int)) = false := by rw [beq_eq_false_iff_ne]; omega
    have hq2 : ¬ (l.length : Int) = (n : Int) := by omega
    have HIH := Lib.hid ih
    have HM := Lib.hid hm
    have HL := Lib.hid hlv
    have HPV := Lib.hid hpv
    have HLI := Lib.hid hli
    have hl20 : l.length ≤ 1048576 := by omega
    have HHAS := Lib.hid (fun (i : Nat) w h => l00Has_any lv bl l hl20 i w h)
    have HOWN := Lib.hid (fun w h => l00Own_any lv bl l hl20 w h)
    obtain ⟨i0, z0, hi0, hz0, hs0, hb0, hc0⟩ := i64s_info
    have HI := Lib.hid (And.intro hi0 (And.intro hz0 (And.intro hs0 (And.intro hb0 hc0))))
    obtain ⟨i1, z1, hi1, hz1, hs1, hb1, hc1⟩ := i64_info
    have HI1 := Lib.hid (And.intro hi1 (And.intro hz1 (And.intro hs1 (And.intro hb1 hc1))))
    obtain ⟨am, cm, rfl⟩ := hm.1.len
    obtain ⟨al, cl, rfl⟩ := hlv.len
    clear ih hm hlv hpv hli hi0 hz0 hs0 hb0 hc0 hi1 hz1 hs1 hb1 hc1
    rw [ordL_all]
    go_enter Tryz.func48, Tryz.ntmps48
    go_wp2
    go_loopw [10, 9] (fun i u wr => ∃ (k g cap : Nat) (D : Od), k ≤ n ∧ i = .int .i64 k ∧ u = .slice (some ⟨g, 0, none⟩) D.length cap ∧ wr.ownsRow w.heap.size 37 1 (.slice (some ⟨g, 0, none⟩) D.length cap) D.length (odV D) ∧ odL D = ordTo (okPic c F W H P) n d l k ∧ OdW wr B D ∧ (D.length = 0 → cap = 0) ∧ Below w.heap.size w wr) (fun i u wr => n + 1 - (intOf i).toNat)
    case atStart => exact ⟨0, w.heap.size, 0, [], by omega, rfl, rfl, owns_empty1 _ _, rfl, (fun q hq => by cases hq), fun _ => rfl, by repeat' (first | with_reducible exact Below.refl _ _ | with_reducible assumption | with_reducible refine Below.drew ?_ | with_reducible refine Below.drewN ?_ _ | with_reducible refine Below.alloc ?_ ?_ _ | with_reducible refine Below.setCell ?_ ?_ _ | with_reducible refine Below.setRow ?_ ?_ _ | with_reducible refine below_step (by assumption) ?_ ?_ | (show (_ : Nat) ≤ _; first | omega | (simp <;> omega)))⟩
    case round =>
      obtain ⟨k, g, cap, D, hk, rfl, rfl, hown, hod, hodw, hc0, hb⟩ := hrel
      have HO := Lib.hid hown
      have HD := Lib.hid hod
      have HW := Lib.hid hodw
      have HC := Lib.hid hc0
      have hpr := (keep_row hb hp).trans hr
      have hszb := hb.size
      have hpw : p < wr.heap.size := by omega
      clear hown hod hodw hc0
      by_cases hlt : k < n
      · have hlt2 : (k : Int) < (n : Int) := by omega
        have hw1 : IntKind.i64.wrap ((k : Int) + 1) = ((k + 1 : Nat) : Int) := by rw [IntWalk.i64_in _ (by omega)]; rfl
        have HH0 := HHAS.out k
        by_cases hin : k ∈ l
        · rw [decide_eq_true hin] at HH0
          have HN := Lib.hid (ordTo_in (ok := okPic c F W H P) (n := n) (d := d) hin)
          have HH := Lib.hid HH0
          clear HH0 hin
          go_wp2_with (go_at_call 95; refine (HH.out _ (HL.out.below (by repeat' (first | with_reducible exact Below.refl _ _ | with_reducible assumption | with_reducible refine Below.drew ?_ | with_reducible refine Below.drewN ?_ _ | with_reducible refine Below.alloc ?_ ?_ _ | with_reducible refine Below.setCell ?_ ?_ _ | with_reducible refine Below.setRow ?_ ?_ _ | with_reducible refine below_step (by assumption) ?_ ?_ | (show (_ : Nat) ≤ _; first | omega | (simp <;> omega)))) (Nat.le_refl _))).mono ?_; rintro e w1 ⟨rfl, hb1⟩; have r_hb1 := keep_rowA hb1; have f_hb1 := keep_frA hb1; have s_hb1 := hb1.size; (try simp only [World.size_alloc, World.size_setCell, setRow_size, World.size_drew, size_drewNm] at r_hb1 f_hb1 s_hb1))
          go_roundw
          case rel => first | exact ⟨k + 1, g, cap, D, by omega, by go_num, rfl, owns_below HO.out (by repeat' (first | with_reducible exact Below.refl _ _ | with_reducible assumption | with_reducible refine Below.drew ?_ | with_reducible refine Below.drewN ?_ _ | with_reducible refine Below.alloc ?_ ?_ _ | with_reducible refine Below.setCell ?_ ?_ _ | with_reducible refine Below.setRow ?_ ?_ _ | with_reducible refine below_step (by assumption) ?_ ?_ | (show (_ : Nat) ≤ _; first | omega | (simp <;> omega)))), by rw [HN.out]; exact HD.out, HW.out.below (by repeat' (first | with_reducible exact Below.refl _ _ | with_reducible assumption | with_reducible refine Below.drew ?_ | with_reducible refine Below.drewN ?_ _ | with_reducible refine Below.alloc ?_ ?_ _ | with_reducible refine Below.setCell ?_ ?_ _ | with_reducible refine Below.setRow ?_ ?_ _ | with_reducible refine below_step (by assumption) ?_ ?_ | (show (_ : Nat) ≤ _; first | omega | (simp <;> omega)))), HC.out, by repeat' (first | with_reducible exact Below.refl _ _ | with_reducible assumption | with_reducible refine Below.drew ?_ | with_reducible refine Below.drewN ?_ _ | with_reducible refine Below.alloc ?_ ?_ _ | with_reducible refine Below.setCell ?_ ?_ _ | with_reducible refine Below.setRow ?_ ?_ _ | with_reducible refine below_step (by assumption) ?_ ?_ | (show (_ : Nat) ≤ _; first | omega | (simp <;> omega)))⟩ | ((repeat (with_reducible apply Exists.intro)); refine And.intro ?_ ?_; rotate_left; (focus ((repeat' (with_reducible apply And.intro)) <;> rfl)); exact ⟨k + 1, g, cap, D, by omega, by go_num, rfl, owns_below HO.out (by repeat' (first | with_reducible exact Below.refl _ _ | with_reducible assumption | with_reducible refine Below.drew ?_ | with_reducible refine Below.drewN ?_ _ | with_reducible refine Below.alloc ?_ ?_ _ | with_reducible refine Below.setCell ?_ ?_ _ | with_reducible refine Below.setRow ?_ ?_ _ | with_reducible refine below_step (by assumption) ?_ ?_ | (show (_ : Nat) ≤ _; first | omega | (simp <;> omega)))), by rw [HN.out]; exact HD.out, HW.out.below (by repeat' (first | with_reducible exact Below.refl _ _ | with_reducible assumption | with_reducible refine Below.drew ?_ | with_reducible refine Below.drewN ?_ _ | with_reducible refine Below.alloc ?_ ?_ _ | with_reducible refine Below.setCell ?_ ?_ _ | with_reducible refine Below.setRow ?_ ?_ _ | with_reducible refine below_step (by assumption) ?_ ?_ | (show (_ : Nat) ≤ _; first | omega | (simp <;> omega)))), HC.out, by repeat' (first | with_reducible exact Below.refl _ _ | with_reducible assumption | with_reducible refine Below.drew ?_ | with_reducible refine Below.drewN ?_ _ | with_reducible refine Below.alloc ?_ ?_ _ | with_reducible refine Below.setCell ?_ ?_ _ | with_reducible refine Below.setRow ?_ ?_ _ | with_reducible refine below_step (by assumption) ?_ ?_ | (show (_ : Nat) ≤ _; first | omega | (simp <;> omega)))⟩)
          case measure => simp [intOf]; omega
        · rw [decide_eq_false hin] at HH0
          have HN := Lib.hid (ordTo_out (ok := okPic c F W H P) (n := n) (d := d) hin)
          have HH := Lib.hid HH0
          have hl2 : (l ++ [k]).length = l.length + 1 := by simp
          have hl3 : ∀ i ∈ l ++ [k], i < n := fun i hi => by
            rcases List.mem_append.1 hi with h | h
            · exact HLI.out i h
            · rw [List.mem_singleton.1 h]; exact hlt
          have HRC := Lib.hid (fun lv bl w h1 h2 => HIH.out (l ++ [k]) lv bl B w (by omega) h1 h2 hl3)
          have HFEW := Lib.hid (ordTo_few (ok := okPic c F W H P) (n := n) (d := d) (l := l) (k := k + 1) hn (by omega) (by omega))
          have HLN := Lib.hid (fun (m : List Nat) (h : m ∈ ordTo (okPic c F W H P) n d l (k + 1)) => ordTo_len h)
          clear HH0 hin hl3
          go_wp2_with (first | (go_at_call 95; refine (HH.out _ (HL.out.below (by repeat' (first | with_reducible exact Below.refl _ _ | with_reducible assumption | with_reducible refine Below.drew ?_ | with_reducible refine Below.drewN ?_ _ | with_reducible refine Below.alloc ?_ ?_ _ | with_reducible refine Below.setCell ?_ ?_ _ | with_reducible refine Below.setRow ?_ ?_ _ | with_reducible refine below_step (by assumption) ?_ ?_ | (show (_ : Nat) ≤ _; first | omega | (simp <;> omega)))) (Nat.le_refl _))).mono ?_; rintro e w1 ⟨rfl, hb1⟩; have r_hb1 := keep_rowA hb1; have f_hb1 := keep_frA hb1; have s_hb1 := hb1.size; (try simp only [World.size_alloc, World.size_setCell, setRow_size, World.size_drew, size_drewNm] at r_hb1 f_hb1 s_hb1)) | (go_at_call 86; refine (HOWN.out _ (HL.out.below (by repeat' (first | with_reducible exact Below.refl _ _ | with_reducible assumption | with_reducible refine Below.drew ?_ | with_reducible refine Below.drewN ?_ _ | with_reducible refine Below.alloc ?_ ?_ _ | with_reducible refine Below.setCell ?_ ?_ _ | with_reducible refine Below.setRow ?_ ?_ _ | with_reducible refine below_step (by assumption) ?_ ?_ | (show (_ : Nat) ≤ _; first | omega | (simp <;> omega)))) (Nat.le_refl _))).mono ?_; rintro e w2 ⟨v2, rfl, hown2, hb2⟩; have hsz2 := hb2.size; have HO2 := Lib.hid hown2; clear hown2; have r_hb2 := keep_rowA hb2; have f_hb2 := keep_frA hb2; have s_hb2 := hb2.size; (try simp only [World.size_alloc, World.size_setCell, setRow_size, World.size_drew, size_drewNm] at r_hb2 f_hb2 s_hb2)) | (at_builtin; refine wpList_append_own _ rfl _ _ 37 rfl w1.heap.size 2 i1 z1 1 8 Tryz.underlying37 HI1.out.1 HI1.out.2.1 HI1.out.2.2.1 HI1.out.2.2.2.1 HI1.out.2.2.2.2 (by decide) _ _ _ rfl (HO2.out.alloc _) ⟨w2.heap.size, 0, none⟩ 1 1 [.int .i64 (k : Int)] rfl rfl ?c1 ?c2 ?c3 ?c4 ?c5 ?_))
          case c1 =>
            intro j u hj
            match j, hj with
            | 0, hj => simp at hj; subst hj; simp [Addr.add]
          case c2 => intro u hu; simp at hu; subst hu; rfl
          case c3 => unfold maxLen; omega
          case c4 => omega
          case c5 => simp; omega
          intro v3 w3 hown3 hgrow3 _
          have hs1 := hb1.size
          have hbg : Below w1.heap.size w1 w3 := below_grown (show Below w1.heap.size w1 (w2.alloc (.cells #[.int .i64 (k : Int)] 2)) by repeat' (first | with_reducible exact Below.refl _ _ | with_reducible assumption | with_reducible refine Below.drew ?_ | with_reducible refine Below.drewN ?_ _ | with_reducible refine Below.alloc ?_ ?_ _ | with_reducible refine Below.setCell ?_ ?_ _ | with_reducible refine Below.setRow ?_ ?_ _ | with_reducible refine below_step (by assumption) ?_ ?_ | (show (_ : Nat) ≤ _; first | omega | (simp <;> omega)))) hgrow3 (owns_base HO2.out) (by simp; omega)
          rw [← nlV_snoc] at hown3
          have HK3 := Lib.hid (own_nlV hl2 hown3)
          have hb3 : Below wr.heap.size wr w3 := hb1.trans (hbg.mono hs1)
          have hs3 := hb3.size
          have hpr3 := (keep_row hb3 hpw).trans hpr
          clear hown3 hgrow3 HO2
          go_wp2_with (first | (go_at_call 48; refine (HRC.out _ w1.heap.size _ (by omega) (by omega) hpr3 (by omega) (HM.out.below (by repeat' (first | with_reducible exact Below.refl _ _ | with_reducible assumption | with_reducible refine Below.drew ?_ | with_reducible refine Below.drewN ?_ _ | with_reducible refine Below.alloc ?_ ?_ _ | with_reducible refine Below.setCell ?_ ?_ _ | with_reducible refine Below.setRow ?_ ?_ _ | with_reducible refine below_step (by assumption) ?_ ?_ | (show (_ : Nat) ≤ _; first | omega | (simp <;> omega)))) (Nat.le_refl _)) (HPV.out.below (by repeat' (first | with_reducible exact Below.refl _ _ | with_reducible assumption | with_reducible refine Below.drew ?_ | with_reducible refine Below.drewN ?_ _ | with_reducible refine Below.alloc ?_ ?_ _ | with_reducible refine Below.setCell ?_ ?_ _ | with_reducible refine Below.setRow ?_ ?_ _ | with_reducible refine below_step (by assumption) ?_ ?_ | (show (_ : Nat) ≤ _; first | omega | (simp <;> omega)))) (Nat.le_refl _)) (hl2 ▸ HK3.out)).mono ?_; rintro e w4 ⟨v4, E, rfl, hown4, hod4, hodw4, hb4⟩; have r_hb4 := keep_rowA hb4; have f_hb4 := keep_frA hb4; have s_hb4 := hb4.size; (try simp only [World.size_alloc, World.size_setCell, setRow_size, World.size_drew, size_drewNm] at r_hb4 f_hb4 s_hb4)) | (at_builtin; generalize hZZ : wpList _ _ _ _ _ _ = ZZ))
          subst hZZ
          have hb5 : Below wr.heap.size wr w4 := hb3.trans (hb4.mono hs3)
          have hs5 := hb5.size
          have hodn : odL (D ++ E) = ordTo (okPic c F W H P) n d l (k + 1) := by rw [odL_app, HD.out, hod4, HN.out]
          have hlen : D.length + E.length ≤ 300000 := by
            have := HFEW.out
            rw [← hodn, odL_len, List.length_append] at this
            exact this
          have hpos := od_pos hodn (fun x hx => HLN.out x hx) (by omega)
          obtain ⟨g2, c2, w5, hrun, hown5, hodw5, hc5, hg5, hb6⟩ := append_od (P := Tryz.prog) w4 w.heap.size w3.heap.size B 87 87 37 i0 z0 24 Tryz.underlying87 HI.out.1 HI.out.2.1 HI.out.2.2.1 HI.out.2.2.2.1 HI.out.2.2.2.2 (by decide) (owns_below HO.out hb5) HC.out (HW.out.below hb5) hodw4 (fun q hq => hpos q (List.mem_append_left _ hq)) (fun q hq => hpos q (List.mem_append_right _ hq)) hown4 (by omega) (by have := hb.size; omega)
          have hb7 := hb6 w.heap.size w (hb.trans (hb5.mono hb.size)) (Nat.le_refl _)
          have HX := Lib.hid hown5
          have HY := Lib.hid hodw5
          have HZ := Lib.hid hodn
          have HC5 := Lib.hid hc5
          clear hown5 hodw5 hodn hb6 hown4 hod4 hodw4 hpos hc5
          refine Lib.wpList_append_run _ rfl _ _ _ _ rfl _ _ rfl rfl _ _ hrun ?_
          go_wp2
          go_roundw
          case rel => first | exact ⟨k + 1, g2, c2, D ++ E, by omega, by go_num, by rw [List.length_append], by rw [List.length_append]; exact HX.out, HZ.out, HY.out, by rw [List.length_append]; exact HC5.out, hb7⟩ | ((repeat (with_reducible apply Exists.intro)); refine And.intro ?_ ?_; rotate_left; (focus ((repeat' (with_reducible apply And.intro)) <;> rfl)); exact ⟨k + 1, g2, c2, D ++ E, by omega, by go_num, by rw [List.length_append], by rw [List.length_append]; exact HX.out, HZ.out, HY.out, by rw [List.length_append]; exact HC5.out, hb7⟩)
          case measure => simp [intOf]; omega
      · have hke : k = n := by omega
        subst hke
        go_wp2
        go_ret
        exact ⟨_, D, rfl, HO.out, HD.out, HW.out, by repeat' (first | with_reducible exact Below.refl _ _ | with_reducible assumption | with_reducible refine Below.drew ?_ | with_reducible refine Below.drewN ?_ _ | with_reducible refine Below.alloc ?_ ?_ _ | with_reducible refine Below.setCell ?_ ?_ _ | with_reducible refine Below.setRow ?_ ?_ _ | with_reducible refine below_step (by assumption) ?_ ?_ | (show (_ : Nat) ≤ _; first | omega | (simp <;> omega)))⟩
set_option maxHeartbeats 8000000 in
theorem orders_any (p : Nat) (c : Nat → Int) (hfc : FitSheet c) (W H : Nat) (hW : c 0 = W) (hH : c 1 = H) (W0 : 0 < W) (W8 : W ≤ 8) (H0 : 0 < H) (H8 : H ≤ 8) (v : Value) (n b : Nat) (F : Nat → Mk) (hn : n ≤ 6) (hF : ∀ k, k < n → MkLay (F k)) (pv : Value) (bp : Nat) (P : List (List UInt8)) (hP : P.length ≤ 1048576) :
    ∀ (d : Nat) (l : List Nat) (lv : Value) (bl B : Nat) (w : World), l.length + d = n → B ≤ bl → B ≤ w.heap.size → (∀ i ∈ l, i < n) → rowOf w p = kc sk 266 c → p < w.heap.size → OwnM w b v n F → OwnT w bp pv P → OwnK .i64 1 w bl lv l.length (nl l) → MxW w →
    Calls Tryz.prog 47 #[.pointer (some ⟨p, 0, none⟩), v, pv, lv] w fun e w' => ∃ (v' : Value) (D : Od), e = .returned v' ∧ w'.ownsRow w.heap.size 37 1 v' D.length (odV D) ∧ odL D = ordL (okPic c F W H P) n d l ∧ OdW w' B D ∧ Below w.heap.size w w' := by
  intro d
  induction d with
  | zero =>
    intro l lv bl B w hd hB1 hB2 hli hr hp hm hpv hlv hmx
    have hq : ((l.length : Int) == (n : Int)) = true := by rw [beq_iff_eq]; omega
    have hq2 : (l.length : Int) = (n : Int) := by omega
    have hPT0 := fun w2 h1 h2 h3 h4 h5 => paint_any p c hfc W H hW hH W0 W8 H0 H8 v n b F (by omega) hF lv bl l (by omega) hli w2 h1 h2 h3 h4 h5
    have HPT := Lib.hid hPT0
    have hln : (linB (chP c (pntG F l)) W H).length = H := linB_len _ _ _
    have HSM0 := fun v1 v2 b1 b2 w h1 h2 => equal_strs_any v1 v2 b1 b2 (linB (chP c (pntG F l)) W H) P (by omega) hP w h1 h2
    rw [show eqL (linB (chP c (pntG F l)) W H) P = okPic c F W H P l from rfl] at HSM0
    have HST := Lib.hid (fun (w2 : World) (B : Nat) (v2 : Value) (h : w2.ownsRow B 9 1 v2 H (strV (linB (chP c (pntG F l)) W H))) => OwnT.of (L := linB (chP c (pntG F l)) W H) (by rw [hln]; exact h))
    have HM := Lib.hid hm
    have HL := Lib.hid hlv
    have HPV := Lib.hid hpv
    have HE := Lib.hid (show ordL (okPic c F W H P) n 0 l = if okPic c F W H P l = true then [l] else [] from rfl)
    obtain ⟨i0, z0, hi0, hz0, hs0, hb0, hc0⟩ := i64s_info
    have HI := Lib.hid (And.intro hi0 (And.intro hz0 (And.intro hs0 (And.intro hb0 hc0))))
    obtain ⟨am, cm, rfl⟩ := hm.1.len
    obtain ⟨al, cl, rfl⟩ := hlv.len
    clear hPT0 hln hm hlv hpv hi0 hz0 hs0 hb0 hc0
    generalize okPic c F W H P l = z at *
    have HSM := Lib.hid HSM0
    clear HSM0
    cases z with
    | true =>
      go_enter Tryz.func47, Tryz.ntmps47
      go_wp2_with (first | (go_at_call 43; refine (HPT.out _ (by (go_simp <;> (intros; omega))) (by first | omega | (simp <;> omega)) (HM.out.below (by repeat' (first | with_reducible exact Below.refl _ _ | with_reducible assumption | with_reducible refine Below.drew ?_ | with_reducible refine Below.drewN ?_ _ | with_reducible refine Below.alloc ?_ ?_ _ | with_reducible refine Below.setCell ?_ ?_ _ | with_reducible refine Below.setRow ?_ ?_ _ | with_reducible refine below_step (by assumption) ?_ ?_ | (show (_ : Nat) ≤ _; first | omega | (simp <;> omega)))) (Nat.le_refl _)) (HL.out.below (by repeat' (first | with_reducible exact Below.refl _ _ | with_reducible assumption | with_reducible refine Below.drew ?_ | with_reducible refine Below.drewN ?_ _ | with_reducible refine Below.alloc ?_ ?_ _ | with_reducible refine Below.setCell ?_ ?_ _ | with_reducible refine Below.setRow ?_ ?_ _ | with_reducible refine below_step (by assumption) ?_ ?_ | (show (_ : Nat) ≤ _; first | omega | (simp <;> omega)))) (Nat.le_refl _)) (hmx.below (by repeat' (first | with_reducible exact Below.refl _ _ | with_reducible assumption | with_reducible refine Below.drew ?_ | with_reducible refine Below.drewN ?_ _ | with_reducible refine Below.alloc ?_ ?_ _ | with_reducible refine Below.setCell ?_ ?_ _ | with_reducible refine Below.setRow ?_ ?_ _ | with_reducible refine below_step (by assumption) ?_ ?_ | (show (_ : Nat) ≤ _; first | omega | (simp <;> omega)))))).mono ?_; rintro e w1 ⟨v1, rfl, hown1, hb1⟩; have H1 := Lib.hid (HST.out _ _ _ hown1); clear hown1; have r_hb1 := keep_rowA hb1; have f_hb1 := keep_frA hb1; have s_hb1 := hb1.size; (try simp only [World.size_alloc, World.size_setCell, setRow_size, World.size_drew, size_drewNm] at r_hb1 f_hb1 s_hb1)) | (go_at_call 96; refine (HSM.out _ _ _ _ _ H1.out (HPV.out.below (by repeat' (first | with_reducible exact Below.refl _ _ | with_reducible assumption | with_reducible refine Below.drew ?_ | with_reducible refine Below.drewN ?_ _ | with_reducible refine Below.alloc ?_ ?_ _ | with_reducible refine Below.setCell ?_ ?_ _ | with_reducible refine Below.setRow ?_ ?_ _ | with_reducible refine below_step (by assumption) ?_ ?_ | (show (_ : Nat) ≤ _; first | omega | (simp <;> omega)))) (Nat.le_refl _))).mono ?_; rintro e w2 ⟨rfl, hb2⟩; have r_hb2 := keep_rowA hb2; have f_hb2 := keep_frA hb2; have s_hb2 := hb2.size; (try simp only [World.size_alloc, World.size_setCell, setRow_size, World.size_drew, size_drewNm] at r_hb2 f_hb2 s_hb2)))
      go_ret
      exact ⟨_, [(.slice al l.length cl, l)], rfl, owns_downP (owns_madeP w2 _ [.slice al l.length cl] (by simp)) (by have := hb1.size; have := hb2.size; omega), by rw [HE.out]; rfl, (fun q hq => by rw [List.mem_singleton.1 hq]; exact (HL.out.below (by repeat' (first | with_reducible exact Below.refl _ _ | with_reducible assumption | with_reducible refine Below.drew ?_ | with_reducible refine Below.drewN ?_ _ | with_reducible refine Below.alloc ?_ ?_ _ | with_reducible refine Below.setCell ?_ ?_ _ | with_reducible refine Below.setRow ?_ ?_ _ | with_reducible refine below_step (by assumption) ?_ ?_ | (show (_ : Nat) ≤ _; first | omega | (simp <;> omega)))) (Nat.le_refl _)).down hB1), by repeat' (first | with_reducible exact Below.refl _ _ | with_reducible assumption | with_reducible refine Below.drew ?_ | with_reducible refine Below.drewN ?_ _ | with_reducible refine Below.alloc ?_ ?_ _ | with_reducible refine Below.setCell ?_ ?_ _ | with_reducible refine Below.setRow ?_ ?_ _ | with_reducible refine below_step (by assumption) ?_ ?_ | (show (_ : Nat) ≤ _; first | omega | (simp <;> omega)))⟩
    | false =>
      go_enter Tryz.func47, Tryz.ntmps47
      go_wp2_with (first | (go_at_call 43; refine (HPT.out _ (by (go_simp <;> (intros; omega))) (by first | omega | (simp <;> omega)) (HM.out.below (by repeat' (first | with_reducible exact Below.refl _ _ | with_reducible assumption | with_reducible refine Below.drew ?_ | with_reducible refine Below.drewN ?_ _ | with_reducible refine Below.alloc ?_ ?_ _ | with_reducible refine Below.setCell ?_ ?_ _ | with_reducible refine Below.setRow ?_ ?_ _ | with_reducible refine below_step (by assumption) ?_ ?_ | (show (_ : Nat) ≤ _; first | omega | (simp <;> omega)))) (Nat.le_refl _)) (HL.out.below (by repeat' (first | with_reducible exact Below.refl _ _ | with_reducible assumption | with_reducible refine Below.drew ?_ | with_reducible refine Below.drewN ?_ _ | with_reducible refine Below.alloc ?_ ?_ _ | with_reducible refine Below.setCell ?_ ?_ _ | with_reducible refine Below.setRow ?_ ?_ _ | with_reducible refine below_step (by assumption) ?_ ?_ | (show (_ : Nat) ≤ _; first | omega | (simp <;> omega)))) (Nat.le_refl _)) (hmx.below (by repeat' (first | with_reducible exact Below.refl _ _ | with_reducible assumption | with_reducible refine Below.drew ?_ | with_reducible refine Below.drewN ?_ _ | with_reducible refine Below.alloc ?_ ?_ _ | with_reducible refine Below.setCell ?_ ?_ _ | with_reducible refine Below.setRow ?_ ?_ _ | with_reducible refine below_step (by assumption) ?_ ?_ | (show (_ : Nat) ≤ _; first | omega | (simp <;> omega)))))).mono ?_; rintro e w1 ⟨v1, rfl, hown1, hb1⟩; have H1 := Lib.hid (HST.out _ _ _ hown1); clear hown1; have r_hb1 := keep_rowA hb1; have f_hb1 := keep_frA hb1; have s_hb1 := hb1.size; (try simp only [World.size_alloc, World.size_setCell, setRow_size, World.size_drew, size_drewNm] at r_hb1 f_hb1 s_hb1)) | (go_at_call 96; refine (HSM.out _ _ _ _ _ H1.out (HPV.out.below (by repeat' (first | with_reducible exact Below.refl _ _ | with_reducible assumption | with_reducible refine Below.drew ?_ | with_reducible refine Below.drewN ?_ _ | with_reducible refine Below.alloc ?_ ?_ _ | with_reducible refine Below.setCell ?_ ?_ _ | with_reducible refine Below.setRow ?_ ?_ _ | with_reducible refine below_step (by assumption) ?_ ?_ | (show (_ : Nat) ≤ _; first | omega | (simp <;> omega)))) (Nat.le_refl _))).mono ?_; rintro e w2 ⟨rfl, hb2⟩; have r_hb2 := keep_rowA hb2; have f_hb2 := keep_frA hb2; have s_hb2 := hb2.size; (try simp only [World.size_alloc, World.size_setCell, setRow_size, World.size_drew, size_drewNm] at r_hb2 f_hb2 s_hb2)))
      go_ret
      exact ⟨_, [], rfl, World.ownsRow_nil _ _ _ _, by rw [HE.out]; rfl, (fun q hq => by cases hq), by repeat' (first | with_reducible exact Below.refl _ _ | with_reducible assumption | with_reducible refine Below.drew ?_ | with_reducible refine Below.drewN ?_ _ | with_reducible refine Below.alloc ?_ ?_ _ | with_reducible refine Below.setCell ?_ ?_ _ | with_reducible refine Below.setRow ?_ ?_ _ | with_reducible refine below_step (by assumption) ?_ ?_ | (show (_ : Nat) ≤ _; first | omega | (simp <;> omega)))⟩
  | succ d ih =>
    intro l lv bl B w hd hB1 hB2 hli hr hp hm hpv hlv hmx
    have hq : ((l.length : Int) == (n : Int)) = false := by rw [beq_eq_false_iff_ne]; omega
    have hq2 : ¬ (l.length : Int) = (n : Int) := by omega
    have HIH := Lib.hid ih
    have HM := Lib.hid hm
    have HL := Lib.hid hlv
    have HPV := Lib.hid hpv
    have HLI := Lib.hid hli
    have hl20 : l.length ≤ 1048576 := by omega
    have HHAS := Lib.hid (fun (i : Nat) w h => contains_i64 lv bl l hl20 i w h)
    have HOWN := Lib.hid (fun w h => clone_i64 lv bl l hl20 w h)
    have HSZ := Lib.hid (fun w h => size_marks v b n F w h)
    obtain ⟨i0, z0, hi0, hz0, hs0, hb0, hc0⟩ := i64s_info
    have HI := Lib.hid (And.intro hi0 (And.intro hz0 (And.intro hs0 (And.intro hb0 hc0))))
    obtain ⟨i1, z1, hi1, hz1, hs1, hb1, hc1⟩ := i64_info
    have HI1 := Lib.hid (And.intro hi1 (And.intro hz1 (And.intro hs1 (And.intro hb1 hc1))))
    obtain ⟨am, cm, rfl⟩ := hm.1.len
    obtain ⟨al, cl, rfl⟩ := hlv.len
    clear ih hm hlv hpv hli hi0 hz0 hs0 hb0 hc0 hi1 hz1 hs1 hb1 hc1
    rw [ordL_all]
    go_enter Tryz.func47, Tryz.ntmps47
    go_wp2_with (go_at_call 68; refine (HSZ.out _ (HM.out.below (by repeat' (first | with_reducible exact Below.refl _ _ | with_reducible assumption | with_reducible refine Below.drew ?_ | with_reducible refine Below.drewN ?_ _ | with_reducible refine Below.alloc ?_ ?_ _ | with_reducible refine Below.setCell ?_ ?_ _ | with_reducible refine Below.setRow ?_ ?_ _ | with_reducible refine below_step (by assumption) ?_ ?_ | (show (_ : Nat) ≤ _; first | omega | (simp <;> omega)))) (Nat.le_refl _))).mono ?_; rintro e ws ⟨rfl, rfl⟩)
    go_loopw [27, 9] (fun i u wr => ∃ (k g cap : Nat) (D : Od), k ≤ n ∧ i = .int .i64 k ∧ u = .slice (some ⟨g, 0, none⟩) D.length cap ∧ wr.ownsRow w.heap.size 37 1 (.slice (some ⟨g, 0, none⟩) D.length cap) D.length (odV D) ∧ odL D = ordTo (okPic c F W H P) n d l k ∧ OdW wr B D ∧ (D.length = 0 → cap = 0) ∧ Below w.heap.size w wr) (fun i u wr => n + 1 - (intOf i).toNat)
    case atStart => exact ⟨0, w.heap.size, 0, [], by omega, rfl, rfl, owns_empty1 _ _, rfl, (fun q hq => by cases hq), fun _ => rfl, by repeat' (first | with_reducible exact Below.refl _ _ | with_reducible assumption | with_reducible refine Below.drew ?_ | with_reducible refine Below.drewN ?_ _ | with_reducible refine Below.alloc ?_ ?_ _ | with_reducible refine Below.setCell ?_ ?_ _ | with_reducible refine Below.setRow ?_ ?_ _ | with_reducible refine below_step (by assumption) ?_ ?_ | (show (_ : Nat) ≤ _; first | omega | (simp <;> omega)))⟩
    case round =>
      obtain ⟨k, g, cap, D, hk, rfl, rfl, hown, hod, hodw, hc0, hb⟩ := hrel
      have HO := Lib.hid hown
      have HD := Lib.hid hod
      have HW := Lib.hid hodw
      have HC := Lib.hid hc0
      have hpr := (keep_row hb hp).trans hr
      have hszb := hb.size
      have hpw : p < wr.heap.size := by omega
      clear hown hod hodw hc0
      by_cases hlt : k < n
      · have hlt2 : (k : Int) < (n : Int) := by omega
        have hw1 : IntKind.i64.wrap ((k : Int) + 1) = ((k + 1 : Nat) : Int) := by rw [IntWalk.i64_in _ (by omega)]; rfl
        have HH0 := HHAS.out k
        by_cases hin : k ∈ l
        · rw [decide_eq_true hin] at HH0
          have HN := Lib.hid (ordTo_in (ok := okPic c F W H P) (n := n) (d := d) hin)
          have HH := Lib.hid HH0
          clear HH0 hin
          go_wp2_with (go_at_call 97; refine (HH.out _ (HL.out.below (by repeat' (first | with_reducible exact Below.refl _ _ | with_reducible assumption | with_reducible refine Below.drew ?_ | with_reducible refine Below.drewN ?_ _ | with_reducible refine Below.alloc ?_ ?_ _ | with_reducible refine Below.setCell ?_ ?_ _ | with_reducible refine Below.setRow ?_ ?_ _ | with_reducible refine below_step (by assumption) ?_ ?_ | (show (_ : Nat) ≤ _; first | omega | (simp <;> omega)))) (Nat.le_refl _))).mono ?_; rintro e w1 ⟨rfl, hb1⟩; have r_hb1 := keep_rowA hb1; have f_hb1 := keep_frA hb1; have s_hb1 := hb1.size; (try simp only [World.size_alloc, World.size_setCell, setRow_size, World.size_drew, size_drewNm] at r_hb1 f_hb1 s_hb1))
          go_roundw
          case rel => first | exact ⟨k + 1, g, cap, D, by omega, by go_num, rfl, owns_below HO.out (by repeat' (first | with_reducible exact Below.refl _ _ | with_reducible assumption | with_reducible refine Below.drew ?_ | with_reducible refine Below.drewN ?_ _ | with_reducible refine Below.alloc ?_ ?_ _ | with_reducible refine Below.setCell ?_ ?_ _ | with_reducible refine Below.setRow ?_ ?_ _ | with_reducible refine below_step (by assumption) ?_ ?_ | (show (_ : Nat) ≤ _; first | omega | (simp <;> omega)))), by rw [HN.out]; exact HD.out, HW.out.below (by repeat' (first | with_reducible exact Below.refl _ _ | with_reducible assumption | with_reducible refine Below.drew ?_ | with_reducible refine Below.drewN ?_ _ | with_reducible refine Below.alloc ?_ ?_ _ | with_reducible refine Below.setCell ?_ ?_ _ | with_reducible refine Below.setRow ?_ ?_ _ | with_reducible refine below_step (by assumption) ?_ ?_ | (show (_ : Nat) ≤ _; first | omega | (simp <;> omega)))), HC.out, by repeat' (first | with_reducible exact Below.refl _ _ | with_reducible assumption | with_reducible refine Below.drew ?_ | with_reducible refine Below.drewN ?_ _ | with_reducible refine Below.alloc ?_ ?_ _ | with_reducible refine Below.setCell ?_ ?_ _ | with_reducible refine Below.setRow ?_ ?_ _ | with_reducible refine below_step (by assumption) ?_ ?_ | (show (_ : Nat) ≤ _; first | omega | (simp <;> omega)))⟩ | ((repeat (with_reducible apply Exists.intro)); refine And.intro ?_ ?_; rotate_left; (focus ((repeat' (with_reducible apply And.intro)) <;> rfl)); exact ⟨k + 1, g, cap, D, by omega, by go_num, rfl, owns_below HO.out (by repeat' (first | with_reducible exact Below.refl _ _ | with_reducible assumption | with_reducible refine Below.drew ?_ | with_reducible refine Below.drewN ?_ _ | with_reducible refine Below.alloc ?_ ?_ _ | with_reducible refine Below.setCell ?_ ?_ _ | with_reducible refine Below.setRow ?_ ?_ _ | with_reducible refine below_step (by assumption) ?_ ?_ | (show (_ : Nat) ≤ _; first | omega | (simp <;> omega)))), by rw [HN.out]; exact HD.out, HW.out.below (by repeat' (first | with_reducible exact Below.refl _ _ | with_reducible assumption | with_reducible refine Below.drew ?_ | with_reducible refine Below.drewN ?_ _ | with_reducible refine Below.alloc ?_ ?_ _ | with_reducible refine Below.setCell ?_ ?_ _ | with_reducible refine Below.setRow ?_ ?_ _ | with_reducible refine below_step (by assumption) ?_ ?_ | (show (_ : Nat) ≤ _; first | omega | (simp <;> omega)))), HC.out, by repeat' (first | with_reducible exact Below.refl _ _ | with_reducible assumption | with_reducible refine Below.drew ?_ | with_reducible refine Below.drewN ?_ _ | with_reducible refine Below.alloc ?_ ?_ _ | with_reducible refine Below.setCell ?_ ?_ _ | with_reducible refine Below.setRow ?_ ?_ _ | with_reducible refine below_step (by assumption) ?_ ?_ | (show (_ : Nat) ≤ _; first | omega | (simp <;> omega)))⟩)
          case measure => simp [intOf]; omega
        · rw [decide_eq_false hin] at HH0
          have HN := Lib.hid (ordTo_out (ok := okPic c F W H P) (n := n) (d := d) hin)
          have HH := Lib.hid HH0
          have hl2 : (l ++ [k]).length = l.length + 1 := by simp
          have hl3 : ∀ i ∈ l ++ [k], i < n := fun i hi => by
            rcases List.mem_append.1 hi with h | h
            · exact HLI.out i h
            · rw [List.mem_singleton.1 h]; exact hlt
          have HRC := Lib.hid (fun lv bl w h1 h2 => HIH.out (l ++ [k]) lv bl B w (by omega) h1 h2 hl3)
          have HFEW := Lib.hid (ordTo_few (ok := okPic c F W H P) (n := n) (d := d) (l := l) (k := k + 1) hn (by omega) (by omega))
          have HLN := Lib.hid (fun (m : List Nat) (h : m ∈ ordTo (okPic c F W H P) n d l (k + 1)) => ordTo_len h)
          clear HH0 hin hl3
          go_wp2_with (first | (go_at_call 97; refine (HH.out _ (HL.out.below (by repeat' (first | with_reducible exact Below.refl _ _ | with_reducible assumption | with_reducible refine Below.drew ?_ | with_reducible refine Below.drewN ?_ _ | with_reducible refine Below.alloc ?_ ?_ _ | with_reducible refine Below.setCell ?_ ?_ _ | with_reducible refine Below.setRow ?_ ?_ _ | with_reducible refine below_step (by assumption) ?_ ?_ | (show (_ : Nat) ≤ _; first | omega | (simp <;> omega)))) (Nat.le_refl _))).mono ?_; rintro e w1 ⟨rfl, hb1⟩; have r_hb1 := keep_rowA hb1; have f_hb1 := keep_frA hb1; have s_hb1 := hb1.size; (try simp only [World.size_alloc, World.size_setCell, setRow_size, World.size_drew, size_drewNm] at r_hb1 f_hb1 s_hb1)) | (go_at_call 98; refine (HOWN.out _ (HL.out.below (by repeat' (first | with_reducible exact Below.refl _ _ | with_reducible assumption | with_reducible refine Below.drew ?_ | with_reducible refine Below.drewN ?_ _ | with_reducible refine Below.alloc ?_ ?_ _ | with_reducible refine Below.setCell ?_ ?_ _ | with_reducible refine Below.setRow ?_ ?_ _ | with_reducible refine below_step (by assumption) ?_ ?_ | (show (_ : Nat) ≤ _; first | omega | (simp <;> omega)))) (Nat.le_refl _))).mono ?_; rintro e w2 ⟨v2, rfl, hown2, hb2⟩; have hsz2 := hb2.size; have HO2 := Lib.hid hown2; clear hown2; have r_hb2 := keep_rowA hb2; have f_hb2 := keep_frA hb2; have s_hb2 := hb2.size; (try simp only [World.size_alloc, World.size_setCell, setRow_size, World.size_drew, size_drewNm] at r_hb2 f_hb2 s_hb2)) | (at_builtin; refine wpList_append_own _ rfl _ _ 37 rfl w1.heap.size 2 i1 z1 1 8 Tryz.underlying37 HI1.out.1 HI1.out.2.1 HI1.out.2.2.1 HI1.out.2.2.2.1 HI1.out.2.2.2.2 (by decide) _ _ _ rfl (HO2.out.alloc _) ⟨w2.heap.size, 0, none⟩ 1 1 [.int .i64 (k : Int)] rfl rfl ?c1 ?c2 ?c3 ?c4 ?c5 ?_))
          case c1 =>
            intro j u hj
            match j, hj with
            | 0, hj => simp at hj; subst hj; simp [Addr.add]
          case c2 => intro u hu; simp at hu; subst hu; rfl
          case c3 => unfold maxLen; omega
          case c4 => omega
          case c5 => simp; omega
          intro v3 w3 hown3 hgrow3 _
          have hs1 := hb1.size
          have hbg : Below w1.heap.size w1 w3 := below_grown (show Below w1.heap.size w1 (w2.alloc (.cells #[.int .i64 (k : Int)] 2)) by repeat' (first | with_reducible exact Below.refl _ _ | with_reducible assumption | with_reducible refine Below.drew ?_ | with_reducible refine Below.drewN ?_ _ | with_reducible refine Below.alloc ?_ ?_ _ | with_reducible refine Below.setCell ?_ ?_ _ | with_reducible refine Below.setRow ?_ ?_ _ | with_reducible refine below_step (by assumption) ?_ ?_ | (show (_ : Nat) ≤ _; first | omega | (simp <;> omega)))) hgrow3 (owns_base HO2.out) (by simp; omega)
          rw [← nlV_snoc] at hown3
          have HK3 := Lib.hid (own_nlV hl2 hown3)
          have hb3 : Below wr.heap.size wr w3 := hb1.trans (hbg.mono hs1)
          have hs3 := hb3.size
          have hpr3 := (keep_row hb3 hpw).trans hpr
          clear hown3 hgrow3 HO2
          go_wp2_with (first | (go_at_call 47; refine (HRC.out _ w1.heap.size _ (by omega) (by omega) hpr3 (by omega) (HM.out.below (by repeat' (first | with_reducible exact Below.refl _ _ | with_reducible assumption | with_reducible refine Below.drew ?_ | with_reducible refine Below.drewN ?_ _ | with_reducible refine Below.alloc ?_ ?_ _ | with_reducible refine Below.setCell ?_ ?_ _ | with_reducible refine Below.setRow ?_ ?_ _ | with_reducible refine below_step (by assumption) ?_ ?_ | (show (_ : Nat) ≤ _; first | omega | (simp <;> omega)))) (Nat.le_refl _)) (HPV.out.below (by repeat' (first | with_reducible exact Below.refl _ _ | with_reducible assumption | with_reducible refine Below.drew ?_ | with_reducible refine Below.drewN ?_ _ | with_reducible refine Below.alloc ?_ ?_ _ | with_reducible refine Below.setCell ?_ ?_ _ | with_reducible refine Below.setRow ?_ ?_ _ | with_reducible refine below_step (by assumption) ?_ ?_ | (show (_ : Nat) ≤ _; first | omega | (simp <;> omega)))) (Nat.le_refl _)) (hl2 ▸ HK3.out) (hmx.below (by repeat' (first | with_reducible exact Below.refl _ _ | with_reducible assumption | with_reducible refine Below.drew ?_ | with_reducible refine Below.drewN ?_ _ | with_reducible refine Below.alloc ?_ ?_ _ | with_reducible refine Below.setCell ?_ ?_ _ | with_reducible refine Below.setRow ?_ ?_ _ | with_reducible refine below_step (by assumption) ?_ ?_ | (show (_ : Nat) ≤ _; first | omega | (simp <;> omega)))))).mono ?_; rintro e w4 ⟨v4, E, rfl, hown4, hod4, hodw4, hb4⟩; have r_hb4 := keep_rowA hb4; have f_hb4 := keep_frA hb4; have s_hb4 := hb4.size; (try simp only [World.size_alloc, World.size_setCell, setRow_size, World.size_drew, size_drewNm] at r_hb4 f_hb4 s_hb4)) | (at_builtin; generalize hZZ : wpList _ _ _ _ _ _ = ZZ))
          subst hZZ
          have hb5 : Below wr.heap.size wr w4 := hb3.trans (hb4.mono hs3)
          have hs5 := hb5.size
          have hodn : odL (D ++ E) = ordTo (okPic c F W H P) n d l (k + 1) := by rw [odL_app, HD.out, hod4, HN.out]
          have hlen : D.length + E.length ≤ 300000 := by
            have := HFEW.out
            rw [← hodn, odL_len, List.length_append] at this
            exact this
          have hpos := od_pos hodn (fun x hx => HLN.out x hx) (by omega)
          obtain ⟨g2, c2, w5, hrun, hown5, hodw5, hc5, hg5, hb6⟩ := append_od (P := Tryz.prog) w4 w.heap.size w3.heap.size B 87 87 37 i0 z0 24 Tryz.underlying87 HI.out.1 HI.out.2.1 HI.out.2.2.1 HI.out.2.2.2.1 HI.out.2.2.2.2 (by decide) (owns_below HO.out hb5) HC.out (HW.out.below hb5) hodw4 (fun q hq => hpos q (List.mem_append_left _ hq)) (fun q hq => hpos q (List.mem_append_right _ hq)) hown4 (by omega) (by have := hb.size; omega)
          have hb7 := hb6 w.heap.size w (hb.trans (hb5.mono hb.size)) (Nat.le_refl _)
          have HX := Lib.hid hown5
          have HY := Lib.hid hodw5
          have HZ := Lib.hid hodn
          have HC5 := Lib.hid hc5
          clear hown5 hodw5 hodn hb6 hown4 hod4 hodw4 hpos hc5
          refine Lib.wpList_append_run _ rfl _ _ _ _ rfl _ _ rfl rfl _ _ hrun ?_
          go_wp2
          go_roundw
          case rel => first | exact ⟨k + 1, g2, c2, D ++ E, by omega, by go_num, by rw [List.length_append], by rw [List.length_append]; exact HX.out, HZ.out, HY.out, by rw [List.length_append]; exact HC5.out, hb7⟩ | ((repeat (with_reducible apply Exists.intro)); refine And.intro ?_ ?_; rotate_left; (focus ((repeat' (with_reducible apply And.intro)) <;> rfl)); exact ⟨k + 1, g2, c2, D ++ E, by omega, by go_num, by rw [List.length_append], by rw [List.length_append]; exact HX.out, HZ.out, HY.out, by rw [List.length_append]; exact HC5.out, hb7⟩)
          case measure => simp [intOf]; omega
      · have hke : k = n := by omega
        subst hke
        go_wp2
        go_ret
        exact ⟨_, D, rfl, HO.out, HD.out, HW.out, by repeat' (first | with_reducible exact Below.refl _ _ | with_reducible assumption | with_reducible refine Below.drew ?_ | with_reducible refine Below.drewN ?_ _ | with_reducible refine Below.alloc ?_ ?_ _ | with_reducible refine Below.setCell ?_ ?_ _ | with_reducible refine Below.setRow ?_ ?_ _ | with_reducible refine below_step (by assumption) ?_ ?_ | (show (_ : Nat) ≤ _; first | omega | (simp <;> omega)))⟩
end Go.Proofs.YtejnejplofddnaaGreatDoor
/- All orders in which marks make a picture, from nothing on: both sides. -/
namespace Go.Proofs.YtejnejplofddnaaGreatDoor
open Go.RowKit
set_option linter.unusedVariables false
set_option linter.unusedSimpArgs false
set_option maxRecDepth 100000
/-- All orders in which marks make a picture. -/
def allO (c : Nat → Int) (n : Nat) (F : Nat → Mk) (P : List (List UInt8)) : List (List Nat) := ordL (okPic c F (c 0).toNat (c 1).toNat P) n n []
theorem mk_lay {c : Nat → Int} {W H : Nat} (hW : c 0 = W) (hH : c 1 = H) (W8 : W ≤ 8) (H8 : H ≤ 8) {x : Mk} (h : mkOkB c x = true) : MkLay x := by
  unfold mkOkB at h
  simp only [Bool.and_eq_true, inB_true, Bool.not_eq_true', decide_eq_true_eq] at h
  obtain ⟨h1, h2, h3, -, -⟩ := h
  refine ⟨h1, by omega, fun j hj => ?_⟩
  have h4 : misU c x.f j = false := by
    unfold anyB at h3
    rw [List.any_eq_false] at h3
    have := h3 j (List.mem_range.2 hj)
    simpa using this
  unfold misU at h4
  rw [Bool.not_eq_false'] at h4
  obtain ⟨a, b, ha, hb, e1, e2⟩ := isP_in hW hH W8 H8 h4
  exact ⟨a, b, ha, hb, e1, e2⟩
open Classical in
theorem vm_lay {c : Nat → Int} {n : Nat} {F : Nat → Mk} (h : vmB c n F = true) : okS c = true ∧ n ≤ 6 ∧ ∀ k, k < n → MkLay (F k) := by
  unfold vmB at h
  simp only [Bool.and_eq_true, decide_eq_true_eq] at h
  obtain ⟨h1, h2, h3⟩ := h
  obtain ⟨W, H, hW, hH, -, -, W8, H8⟩ := okS_sides h1
  exact ⟨h1, h2, fun k hk => mk_lay hW hH W8 H8 (h3 k hk)⟩
theorem allO_len {c : Nat → Int} {n : Nat} {F : Nat → Mk} {P : List (List UInt8)} {m : List Nat} (h : m ∈ allO c n F P) : m.length = n ∧ ∀ i ∈ m, i < n := by
  obtain ⟨h1, -, h3⟩ := ordL_len h
  exact ⟨by simpa using h1, h3 (fun i hi => by cases hi)⟩
theorem allO_few {c : Nat → Int} {n : Nat} {F : Nat → Mk} {P : List (List UInt8)} (hn : n ≤ 6) : (allO c n F P).length ≤ 300000 := by
  have h1 := ordL_few (okPic c F (c 0).toNat (c 1).toNat P) hn n []
  have h2 : 6 ^ n ≤ 6 ^ 6 := Nat.pow_le_pow_right (by decide) hn
  have h3 : (6 : Nat) ^ 6 = 46656 := by decide
  unfold allO
  omega
/-- A list of lists that is given back. -/
def AllW (w w' : World) (B : Nat) (v : Value) (L : List (List Nat)) : Prop := ∃ D : Od, w'.ownsRow w.heap.size 37 1 v D.length (odV D) ∧ odL D = L ∧ OdW w' B D
theorem AllW.len {w w' : World} {B : Nat} {v : Value} {L : List (List Nat)} (h : AllW w w' B v L) : ∃ a cap, v = .slice a L.length cap := by
  obtain ⟨D, h, rfl, -⟩ := h
  rw [odL_len]
  rcases h.2 with ⟨rfl, h0⟩ | ⟨g, cap, cur, rfl, -⟩
  · exact ⟨none, 0, by rw [h0]⟩
  · exact ⟨_, cap, rfl⟩
theorem sAll_any (p : Nat) (c : Nat → Int) (hfc : FitSheet c) (hok : okS c = true) (v : Value) (n b : Nat) (F : Nat → Mk) (hn : n ≤ 6) (hF : ∀ k, k < n → MkLay (F k)) (pv : Value) (bp : Nat) (P : List (List UInt8)) (hP : P.length ≤ 1048576) (lv : Value) (bl B : Nat) (w : World) (hB1 : B ≤ bl) (hB2 : B ≤ w.heap.size) (hr : rowOf w p = kc sk 266 c) (hp : p < w.heap.size) (hm : OwnM w b v n F) (hpv : OwnT w bp pv P) (hlv : OwnK .i64 1 w bl lv 0 (nl [])) :
    Calls Tryz.prog 48 #[.pointer (some ⟨p, 0, none⟩), v, pv, lv] w fun e w' => ∃ v', e = .returned v' ∧ AllW w w' B v' (allO c n F P) ∧ Below w.heap.size w w' := by
  obtain ⟨W, H, hW, hH, W0, H0, W8, H8⟩ := okS_sides hok
  have e1 : (c 0).toNat = W := by omega
  have e2 : (c 1).toNat = H := by omega
  refine (l06Orders_any p c hfc W H hW hH W0 W8 H0 H8 v n b F hn hF pv bp P hP n [] lv bl B w (by simp) hB1 hB2 (fun i hi => by cases hi) hr hp hm hpv hlv).mono fun e w' hq => ?_
  obtain ⟨v', D, rfl, h1, h2, h3, h4⟩ := hq
  exact ⟨v', rfl, ⟨D, h1, by unfold allO; rw [e1, e2]; exact h2, h3⟩, h4⟩
theorem iAll_any (p : Nat) (c : Nat → Int) (hfc : FitSheet c) (hok : okS c = true) (v : Value) (n b : Nat) (F : Nat → Mk) (hn : n ≤ 6) (hF : ∀ k, k < n → MkLay (F k)) (pv : Value) (bp : Nat) (P : List (List UInt8)) (hP : P.length ≤ 1048576) (B : Nat) (w : World) (hB2 : B ≤ w.heap.size) (hr : rowOf w p = kc sk 266 c) (hp : p < w.heap.size) (hm : OwnM w b v n F) (hpv : OwnT w bp pv P) (hmx : MxW w) :
    Calls Tryz.prog 47 #[.pointer (some ⟨p, 0, none⟩), v, pv, .slice none 0 0] w fun e w' => ∃ v', e = .returned v' ∧ AllW w w' B v' (allO c n F P) ∧ Below w.heap.size w w' := by
  obtain ⟨W, H, hW, hH, W0, H0, W8, H8⟩ := okS_sides hok
  have e1 : (c 0).toNat = W := by omega
  have e2 : (c 1).toNat = H := by omega
  refine (orders_any p c hfc W H hW hH W0 W8 H0 H8 v n b F hn hF pv bp P hP n [] (.slice none 0 0) w.heap.size B w (by simp) hB2 hB2 (fun i hi => by cases hi) hr hp hm hpv (.inl ⟨rfl, rfl⟩) hmx).mono fun e w' hq => ?_
  obtain ⟨v', D, rfl, h1, h2, h3, h4⟩ := hq
  exact ⟨v', rfl, ⟨D, h1, by unfold allO; rw [e1, e2]; exact h2, h3⟩, h4⟩
theorem size_lists (w0 : World) (B : Nat) (v : Value) (L : List (List Nat)) (w1 w : World) (h : AllW w0 w1 B v L) : Calls Tryz.prog 49 #[v] w fun e w' => e = .returned (.int .i64 (L.length : Int)) ∧ w = w' := by
  obtain ⟨a, cap, rfl⟩ := h.len
  clear h
  go_enter Tryz.func49, Tryz.ntmps49
  go_wp2
  go_ret
  exact ⟨rfl, rfl⟩
/-- How many, and the code. -/
noncomputable def coN (c : Nat → Int) (n : Nat) (F : Nat → Mk) (P : List (List UInt8)) : Int := if vmB c n F = true then ((allO c n F P).length : Int) else 0
noncomputable def coE (c : Nat → Int) (n : Nat) (F : Nat → Mk) : Int := if vmB c n F = true then 0 else 1
end Go.Proofs.YtejnejplofddnaaGreatDoor
/- The first order in which marks make a picture: both sides. -/
namespace Go.Proofs.YtejnejplofddnaaGreatDoor
open Go.RowKit
set_option linter.unusedVariables false
set_option linter.unusedSimpArgs false
set_option maxRecDepth 100000
/-- The first order, and the code. -/
noncomputable def ofL (c : Nat → Int) (n : Nat) (F : Nat → Mk) (P : List (List UInt8)) : List Nat := if vmB c n F = true then (allO c n F P).headD [] else []
noncomputable def ofE (c : Nat → Int) (n : Nat) (F : Nat → Mk) (P : List (List UInt8)) : Int := if vmB c n F = true then (if (allO c n F P).isEmpty = true then 6 else 0) else 1
theorem of_no {c : Nat → Int} {n : Nat} {F : Nat → Mk} (P : List (List UInt8)) (h : vmB c n F = false) : ofL c n F P = [] ∧ ofE c n F P = 1 := by
  unfold ofL ofE
  rw [h, if_neg (by decide), if_neg (by decide)]
  exact ⟨rfl, rfl⟩
theorem of_none {c : Nat → Int} {n : Nat} {F : Nat → Mk} {P : List (List UInt8)} (h : vmB c n F = true) (hl : allO c n F P = []) : ofL c n F P = [] ∧ ofE c n F P = 6 := by
  unfold ofL ofE
  rw [h, hl, if_pos rfl, if_pos rfl]
  exact ⟨rfl, rfl⟩
theorem of_some {c : Nat → Int} {n : Nat} {F : Nat → Mk} {P : List (List UInt8)} {m : List Nat} {L : List (List Nat)} (h : vmB c n F = true) (hl : allO c n F P = m :: L) : ofL c n F P = m ∧ ofE c n F P = 0 := by
  unfold ofL ofE
  rw [h, hl, if_pos rfl, if_pos rfl]
  exact ⟨rfl, rfl⟩
theorem od_cellsF {w : World} {base : Nat} {e : TypeId} {g cap n : Nat} {xs : List Value} (h : w.ownsRow base e 1 (.slice (some ⟨g, 0, none⟩) n cap) n xs) : g < w.heap.size ∧ n ≤ (rowOf w g).size ∧ ∀ (j : Nat) (x : Value), xs[j]? = some x → (rowOf w g)[j]? = some x := by
  obtain ⟨hl, ⟨h0, -⟩ | ⟨g', cap', cur, hv, hb, hg, h1, h2, h3, ht⟩⟩ := h
  · cases h0
  · simp only [Value.slice.injEq, Option.some.injEq, Addr.mk.injEq] at hv
    obtain ⟨⟨rfl, -, -⟩, -, rfl⟩ := hv
    have hrow : rowOf w g = cur := by simp [rowOf, hg, objRow]
    refine ⟨(Array.getElem?_eq_some_iff.1 hg).1, by rw [hrow]; omega, fun j x hx => ?_⟩
    rw [hrow, ← Array.getElem?_toList]
    have hj : j < n := by have := (List.getElem?_eq_some_iff.1 hx).1; omega
    have := congrArg (fun q => q[j]?) ht
    simp only [List.getElem?_take] at this
    rw [if_pos (by omega)] at this
    rw [this]
    exact hx
theorem AllW.first {w w' : World} {B : Nat} {v : Value} {m : List Nat} {L : List (List Nat)} (h : AllW w w' B v (m :: L)) : ∃ g cap ev, v = .slice (some ⟨g, 0, none⟩) (L.length + 1) cap ∧ g < w'.heap.size ∧ L.length + 1 ≤ (rowOf w' g).size ∧ (rowOf w' g)[0]? = some ev ∧ OwnK .i64 1 w' B ev m.length (nl m) := by
  obtain ⟨D, h, hD0, hD⟩ := h
  match D, hD0 with
  | d :: D', hD0 =>
    unfold odL at hD0
    simp only [List.map_cons, List.cons.injEq] at hD0
    obtain ⟨rfl, rfl⟩ := hD0
    obtain ⟨g, cap, rfl, -, -⟩ := owns_posP h (by simp)
    obtain ⟨h1, h2, h3⟩ := od_cellsF h
    refine ⟨g, cap, d.1, by rw [List.length_map]; rfl, h1, by rw [List.length_map]; exact h2, h3 0 d.1 rfl, hD d (by simp)⟩
set_option maxHeartbeats 4000000 in
theorem sOrderFor_any (c : Nat → Int) (hfc : FitSheet c) (v : Value) (n b : Nat) (F : Nat → Mk) (hn : n ≤ 1048576) (hF : ∀ k, k < n → MkIn (F k) ∧ (F k).n ≤ 1048576) (pv : Value) (bp : Nat) (P : List (List UInt8)) (hP : P.length ≤ 1048576) (w : World) (h : OwnM w b v n F) (hpv : OwnT w bp pv P) :
    Calls Tryz.prog 12 #[.agg (kc sk 266 c), v, pv] w fun e w' => ∃ v', e = .returned (.tuple #[v', .int .i64 (ofE c n F P)]) ∧ OwnK .i64 1 w' w.heap.size v' (ofL c n F P).length (nl (ofL c n F P)) ∧ Below w.heap.size w w' := by
  have HX0 := fun p w h1 h2 h3 => l06Marks_any p c hfc v n b F hn hF w h1 h2 h3
  have HH := Lib.hid h
  have HPV := Lib.hid hpv
  rcases Bool.eq_false_or_eq_true (vmB c n F) with hv | hv
  · obtain ⟨hok, h6, hlay⟩ := vm_lay hv
    rw [hv] at HX0
    have HX := Lib.hid HX0
    have HA := Lib.hid (fun p lv bl w2 hB1 hB2 h1 h2 h3 h4 h5 => sAll_any p c hfc hok v n b F h6 hlay pv bp P hP lv bl w.heap.size w2 hB1 hB2 h1 h2 h3 h4 h5)
    rcases hLL : allO c n F P with _ | ⟨m, L⟩
    · rw [(of_none hv hLL).1, (of_none hv hLL).2]
      rw [hLL] at HA
      clear h hpv hF hv hok hlay HX0 hLL
      go_enter Tryz.func12, Tryz.ntmps12
      go_wp2_with (first | (go_at_call 44; refine (HX.out w.heap.size _ (by (go_simp <;> (intros; omega))) (by first | omega | (simp <;> omega)) (HH.out.below (by repeat' (first | with_reducible exact Below.refl _ _ | with_reducible assumption | with_reducible refine Below.drew ?_ | with_reducible refine Below.drewN ?_ _ | with_reducible refine Below.alloc ?_ ?_ _ | with_reducible refine Below.setCell ?_ ?_ _ | with_reducible refine Below.setRow ?_ ?_ _ | with_reducible refine below_step (by assumption) ?_ ?_ | (show (_ : Nat) ≤ _; first | omega | (simp <;> omega)))) (Nat.le_refl _))).mono ?_; rintro e w1 ⟨rfl, hb1⟩; have r1 := keep_rowA hb1; have f1 := keep_frA hb1; have s1 := hb1.size; (try simp only [World.size_alloc, World.size_setCell, setRow_size, World.size_drew, size_drewNm] at r1 f1 s1)) | (go_at_call 48; refine (HA.out w.heap.size _ w1.heap.size _ (by first | omega | (simp <;> omega)) (by first | omega | (simp <;> omega)) (by (go_simp <;> (intros; omega))) (by first | omega | (simp <;> omega)) (HH.out.below (by repeat' (first | with_reducible exact Below.refl _ _ | with_reducible assumption | with_reducible refine Below.drew ?_ | with_reducible refine Below.drewN ?_ _ | with_reducible refine Below.alloc ?_ ?_ _ | with_reducible refine Below.setCell ?_ ?_ _ | with_reducible refine Below.setRow ?_ ?_ _ | with_reducible refine below_step (by assumption) ?_ ?_ | (show (_ : Nat) ≤ _; first | omega | (simp <;> omega)))) (Nat.le_refl _)) (HPV.out.below (by repeat' (first | with_reducible exact Below.refl _ _ | with_reducible assumption | with_reducible refine Below.drew ?_ | with_reducible refine Below.drewN ?_ _ | with_reducible refine Below.alloc ?_ ?_ _ | with_reducible refine Below.setCell ?_ ?_ _ | with_reducible refine Below.setRow ?_ ?_ _ | with_reducible refine below_step (by assumption) ?_ ?_ | (show (_ : Nat) ≤ _; first | omega | (simp <;> omega)))) (Nat.le_refl _)) (own_empty_i64 _ _)).mono ?_; rintro e w2 ⟨v2, rfl, hall, hb2⟩; obtain ⟨ar, cr, rfl⟩ := hall.len; clear hall; have r_hb2 := keep_rowA hb2; have f_hb2 := keep_frA hb2; have s_hb2 := hb2.size; (try simp only [World.size_alloc, World.size_setCell, setRow_size, World.size_drew, size_drewNm] at r_hb2 f_hb2 s_hb2)))
      refine bodyPost_ret (v := Value.tuple #[Value.slice (some (⟨_, 0, none⟩ : Addr)) 0 0, Value.int .i64 6]) (res_tt rfl rfl rfl) rfl ⟨_, rfl, .inr ⟨_, _, rfl, by first | omega | (simp <;> omega), by simp, by (go_simp <;> (intros; omega)), by simp, fun j hj => absurd hj (by simp)⟩, by repeat' (first | with_reducible exact Below.refl _ _ | with_reducible assumption | with_reducible refine Below.drew ?_ | with_reducible refine Below.drewN ?_ _ | with_reducible refine Below.alloc ?_ ?_ _ | with_reducible refine Below.setCell ?_ ?_ _ | with_reducible refine Below.setRow ?_ ?_ _ | with_reducible refine below_step (by assumption) ?_ ?_ | (show (_ : Nat) ≤ _; first | omega | (simp <;> omega)))⟩
    · rw [(of_some hv hLL).1, (of_some hv hLL).2]
      rw [hLL] at HA
      clear h hpv hF hv hok hlay HX0 hLL
      go_enter Tryz.func12, Tryz.ntmps12
      go_wp2_with (first | (go_at_call 44; refine (HX.out w.heap.size _ (by (go_simp <;> (intros; omega))) (by first | omega | (simp <;> omega)) (HH.out.below (by repeat' (first | with_reducible exact Below.refl _ _ | with_reducible assumption | with_reducible refine Below.drew ?_ | with_reducible refine Below.drewN ?_ _ | with_reducible refine Below.alloc ?_ ?_ _ | with_reducible refine Below.setCell ?_ ?_ _ | with_reducible refine Below.setRow ?_ ?_ _ | with_reducible refine below_step (by assumption) ?_ ?_ | (show (_ : Nat) ≤ _; first | omega | (simp <;> omega)))) (Nat.le_refl _))).mono ?_; rintro e w1 ⟨rfl, hb1⟩; have r1 := keep_rowA hb1; have f1 := keep_frA hb1; have s1 := hb1.size; (try simp only [World.size_alloc, World.size_setCell, setRow_size, World.size_drew, size_drewNm] at r1 f1 s1)) | (go_at_call 48; refine (HA.out w.heap.size _ w1.heap.size _ (by first | omega | (simp <;> omega)) (by first | omega | (simp <;> omega)) (by (go_simp <;> (intros; omega))) (by first | omega | (simp <;> omega)) (HH.out.below (by repeat' (first | with_reducible exact Below.refl _ _ | with_reducible assumption | with_reducible refine Below.drew ?_ | with_reducible refine Below.drewN ?_ _ | with_reducible refine Below.alloc ?_ ?_ _ | with_reducible refine Below.setCell ?_ ?_ _ | with_reducible refine Below.setRow ?_ ?_ _ | with_reducible refine below_step (by assumption) ?_ ?_ | (show (_ : Nat) ≤ _; first | omega | (simp <;> omega)))) (Nat.le_refl _)) (HPV.out.below (by repeat' (first | with_reducible exact Below.refl _ _ | with_reducible assumption | with_reducible refine Below.drew ?_ | with_reducible refine Below.drewN ?_ _ | with_reducible refine Below.alloc ?_ ?_ _ | with_reducible refine Below.setCell ?_ ?_ _ | with_reducible refine Below.setRow ?_ ?_ _ | with_reducible refine below_step (by assumption) ?_ ?_ | (show (_ : Nat) ≤ _; first | omega | (simp <;> omega)))) (Nat.le_refl _)) (own_empty_i64 _ _)).mono ?_; rintro e w2 ⟨v2, rfl, hall, hb2⟩; obtain ⟨g, cr, ev, rfl, hg, hgs, hg0, hok⟩ := hall.first; obtain ⟨ae, ce, rfl⟩ := hok.len; have HOK := Lib.hid hok; have hl0 : ((((L.length + 1 : Nat) : Int)) == 0) = false := (by rw [beq_eq_false_iff_ne]; omega); have hl1 : ¬ (((L.length + 1 : Nat) : Int)) = 0 := (by omega); clear hall hok))
      refine bodyPost_ret (v := .tuple #[.slice ae m.length ce, .int .i64 0]) (res_tt rfl rfl rfl) rfl ⟨_, rfl, HOK.out.below (by repeat' (first | with_reducible exact Below.refl _ _ | with_reducible assumption | with_reducible refine Below.drew ?_ | with_reducible refine Below.drewN ?_ _ | with_reducible refine Below.alloc ?_ ?_ _ | with_reducible refine Below.setCell ?_ ?_ _ | with_reducible refine Below.setRow ?_ ?_ _ | with_reducible refine below_step (by assumption) ?_ ?_ | (show (_ : Nat) ≤ _; first | omega | (simp <;> omega)))) (Nat.le_refl _), by repeat' (first | with_reducible exact Below.refl _ _ | with_reducible assumption | with_reducible refine Below.drew ?_ | with_reducible refine Below.drewN ?_ _ | with_reducible refine Below.alloc ?_ ?_ _ | with_reducible refine Below.setCell ?_ ?_ _ | with_reducible refine Below.setRow ?_ ?_ _ | with_reducible refine below_step (by assumption) ?_ ?_ | (show (_ : Nat) ≤ _; first | omega | (simp <;> omega)))⟩
  · rw [hv] at HX0
    rw [(of_no P hv).1, (of_no P hv).2]
    have HX := Lib.hid HX0
    clear h hpv hF hv HX0
    go_enter Tryz.func12, Tryz.ntmps12
    go_wp2_with (go_at_call 44; refine (HX.out w.heap.size _ (by (go_simp <;> (intros; omega))) (by first | omega | (simp <;> omega)) (HH.out.below (by repeat' (first | with_reducible exact Below.refl _ _ | with_reducible assumption | with_reducible refine Below.drew ?_ | with_reducible refine Below.drewN ?_ _ | with_reducible refine Below.alloc ?_ ?_ _ | with_reducible refine Below.setCell ?_ ?_ _ | with_reducible refine Below.setRow ?_ ?_ _ | with_reducible refine below_step (by assumption) ?_ ?_ | (show (_ : Nat) ≤ _; first | omega | (simp <;> omega)))) (Nat.le_refl _))).mono ?_; rintro e w1 ⟨rfl, hb1⟩; have r1 := keep_rowA hb1; have f1 := keep_frA hb1; have s1 := hb1.size; (try simp only [World.size_alloc, World.size_setCell, setRow_size, World.size_drew, size_drewNm] at r1 f1 s1))
    refine bodyPost_ret (v := Value.tuple #[Value.slice (some (⟨_, 0, none⟩ : Addr)) 0 0, Value.int .i64 1]) (res_tt rfl rfl rfl) rfl ⟨_, rfl, .inr ⟨_, _, rfl, by first | omega | (simp <;> omega), by simp, by (go_simp <;> (intros; omega)), by simp, fun j hj => absurd hj (by simp)⟩, by repeat' (first | with_reducible exact Below.refl _ _ | with_reducible assumption | with_reducible refine Below.drew ?_ | with_reducible refine Below.drewN ?_ _ | with_reducible refine Below.alloc ?_ ?_ _ | with_reducible refine Below.setCell ?_ ?_ _ | with_reducible refine Below.setRow ?_ ?_ _ | with_reducible refine below_step (by assumption) ?_ ?_ | (show (_ : Nat) ≤ _; first | omega | (simp <;> omega)))⟩
set_option maxHeartbeats 4000000 in
theorem iOrderFor_any (c : Nat → Int) (hfc : FitSheet c) (v : Value) (n b : Nat) (F : Nat → Mk) (hn : n ≤ 1048576) (hF : ∀ k, k < n → MkIn (F k) ∧ (F k).n ≤ 1048576) (pv : Value) (bp : Nat) (P : List (List UInt8)) (hP : P.length ≤ 1048576) (w : World) (h : OwnM w b v n F) (hpv : OwnT w bp pv P) (hmx : MxW w) :
    Calls Tryz.prog 11 #[.agg (kc sk 266 c), v, pv] w fun e w' => ∃ v', e = .returned (.tuple #[v', .int .i64 (ofE c n F P)]) ∧ OwnK .i64 1 w' w.heap.size v' (ofL c n F P).length (nl (ofL c n F P)) ∧ Below w.heap.size w w' := by
  have HX0 := fun w h1 => iValidMarks_any c hfc v n b F hn hF w h1
  have HH := Lib.hid h
  have HPV := Lib.hid hpv
  have HMX := Lib.hid hmx
  rcases Bool.eq_false_or_eq_true (vmB c n F) with hv | hv
  · obtain ⟨hok, h6, hlay⟩ := vm_lay hv
    rw [hv] at HX0
    have HX := Lib.hid HX0
    have HA := Lib.hid (fun p w2 hB2 h1 h2 h3 h4 h5 => iAll_any p c hfc hok v n b F h6 hlay pv bp P hP w.heap.size w2 hB2 h1 h2 h3 h4 h5)
    rcases hLL : allO c n F P with _ | ⟨m, L⟩
    · rw [(of_none hv hLL).1, (of_none hv hLL).2]
      rw [hLL] at HA
      clear h hpv hF hv hok hlay HX0 hLL hmx
      go_enter Tryz.func11, Tryz.ntmps11
      go_wp2_with (first | (go_at_call 18; refine (HX.out _ (HH.out.below (by repeat' (first | with_reducible exact Below.refl _ _ | with_reducible assumption | with_reducible refine Below.drew ?_ | with_reducible refine Below.drewN ?_ _ | with_reducible refine Below.alloc ?_ ?_ _ | with_reducible refine Below.setCell ?_ ?_ _ | with_reducible refine Below.setRow ?_ ?_ _ | with_reducible refine below_step (by assumption) ?_ ?_ | (show (_ : Nat) ≤ _; first | omega | (simp <;> omega)))) (Nat.le_refl _))).mono ?_; rintro e w1 ⟨rfl, hb1⟩; have r1 := keep_rowA hb1; have f1 := keep_frA hb1; have s1 := hb1.size; (try simp only [World.size_alloc, World.size_setCell, setRow_size, World.size_drew, size_drewNm] at r1 f1 s1)) | (go_at_call 47; refine (HA.out w.heap.size _ (by first | omega | (simp <;> omega)) (by (go_simp <;> (intros; omega))) (by first | omega | (simp <;> omega)) (HH.out.below (by repeat' (first | with_reducible exact Below.refl _ _ | with_reducible assumption | with_reducible refine Below.drew ?_ | with_reducible refine Below.drewN ?_ _ | with_reducible refine Below.alloc ?_ ?_ _ | with_reducible refine Below.setCell ?_ ?_ _ | with_reducible refine Below.setRow ?_ ?_ _ | with_reducible refine below_step (by assumption) ?_ ?_ | (show (_ : Nat) ≤ _; first | omega | (simp <;> omega)))) (Nat.le_refl _)) (HPV.out.below (by repeat' (first | with_reducible exact Below.refl _ _ | with_reducible assumption | with_reducible refine Below.drew ?_ | with_reducible refine Below.drewN ?_ _ | with_reducible refine Below.alloc ?_ ?_ _ | with_reducible refine Below.setCell ?_ ?_ _ | with_reducible refine Below.setRow ?_ ?_ _ | with_reducible refine below_step (by assumption) ?_ ?_ | (show (_ : Nat) ≤ _; first | omega | (simp <;> omega)))) (Nat.le_refl _)) (HMX.out.below (by repeat' (first | with_reducible exact Below.refl _ _ | with_reducible assumption | with_reducible refine Below.drew ?_ | with_reducible refine Below.drewN ?_ _ | with_reducible refine Below.alloc ?_ ?_ _ | with_reducible refine Below.setCell ?_ ?_ _ | with_reducible refine Below.setRow ?_ ?_ _ | with_reducible refine below_step (by assumption) ?_ ?_ | (show (_ : Nat) ≤ _; first | omega | (simp <;> omega)))))).mono ?_; rintro e w2 ⟨v2, rfl, hall, hb2⟩; obtain ⟨ar, cr, rfl⟩ := hall.len; clear hall; have r_hb2 := keep_rowA hb2; have f_hb2 := keep_frA hb2; have s_hb2 := hb2.size; (try simp only [World.size_alloc, World.size_setCell, setRow_size, World.size_drew, size_drewNm] at r_hb2 f_hb2 s_hb2)))
      refine bodyPost_ret (v := .tuple #[.slice none 0 0, .int .i64 6]) (res_tt rfl rfl rfl) rfl ⟨_, rfl, .inl ⟨rfl, rfl⟩, by repeat' (first | with_reducible exact Below.refl _ _ | with_reducible assumption | with_reducible refine Below.drew ?_ | with_reducible refine Below.drewN ?_ _ | with_reducible refine Below.alloc ?_ ?_ _ | with_reducible refine Below.setCell ?_ ?_ _ | with_reducible refine Below.setRow ?_ ?_ _ | with_reducible refine below_step (by assumption) ?_ ?_ | (show (_ : Nat) ≤ _; first | omega | (simp <;> omega)))⟩
    · rw [(of_some hv hLL).1, (of_some hv hLL).2]
      rw [hLL] at HA
      clear h hpv hF hv hok hlay HX0 hLL hmx
      go_enter Tryz.func11, Tryz.ntmps11
      go_wp2_with (first | (go_at_call 18; refine (HX.out _ (HH.out.below (by repeat' (first | with_reducible exact Below.refl _ _ | with_reducible assumption | with_reducible refine Below.drew ?_ | with_reducible refine Below.drewN ?_ _ | with_reducible refine Below.alloc ?_ ?_ _ | with_reducible refine Below.setCell ?_ ?_ _ | with_reducible refine Below.setRow ?_ ?_ _ | with_reducible refine below_step (by assumption) ?_ ?_ | (show (_ : Nat) ≤ _; first | omega | (simp <;> omega)))) (Nat.le_refl _))).mono ?_; rintro e w1 ⟨rfl, hb1⟩; have r1 := keep_rowA hb1; have f1 := keep_frA hb1; have s1 := hb1.size; (try simp only [World.size_alloc, World.size_setCell, setRow_size, World.size_drew, size_drewNm] at r1 f1 s1)) | (go_at_call 47; refine (HA.out w.heap.size _ (by first | omega | (simp <;> omega)) (by (go_simp <;> (intros; omega))) (by first | omega | (simp <;> omega)) (HH.out.below (by repeat' (first | with_reducible exact Below.refl _ _ | with_reducible assumption | with_reducible refine Below.drew ?_ | with_reducible refine Below.drewN ?_ _ | with_reducible refine Below.alloc ?_ ?_ _ | with_reducible refine Below.setCell ?_ ?_ _ | with_reducible refine Below.setRow ?_ ?_ _ | with_reducible refine below_step (by assumption) ?_ ?_ | (show (_ : Nat) ≤ _; first | omega | (simp <;> omega)))) (Nat.le_refl _)) (HPV.out.below (by repeat' (first | with_reducible exact Below.refl _ _ | with_reducible assumption | with_reducible refine Below.drew ?_ | with_reducible refine Below.drewN ?_ _ | with_reducible refine Below.alloc ?_ ?_ _ | with_reducible refine Below.setCell ?_ ?_ _ | with_reducible refine Below.setRow ?_ ?_ _ | with_reducible refine below_step (by assumption) ?_ ?_ | (show (_ : Nat) ≤ _; first | omega | (simp <;> omega)))) (Nat.le_refl _)) (HMX.out.below (by repeat' (first | with_reducible exact Below.refl _ _ | with_reducible assumption | with_reducible refine Below.drew ?_ | with_reducible refine Below.drewN ?_ _ | with_reducible refine Below.alloc ?_ ?_ _ | with_reducible refine Below.setCell ?_ ?_ _ | with_reducible refine Below.setRow ?_ ?_ _ | with_reducible refine below_step (by assumption) ?_ ?_ | (show (_ : Nat) ≤ _; first | omega | (simp <;> omega)))))).mono ?_; rintro e w2 ⟨v2, rfl, hall, hb2⟩; obtain ⟨g, cr, ev, rfl, hg, hgs, hg0, hok⟩ := hall.first; obtain ⟨ae, ce, rfl⟩ := hok.len; have HOK := Lib.hid hok; have hl0 : ((((L.length + 1 : Nat) : Int)) == 0) = false := (by rw [beq_eq_false_iff_ne]; omega); have hl1 : ¬ (((L.length + 1 : Nat) : Int)) = 0 := (by omega); clear hall hok))
      refine bodyPost_ret (v := .tuple #[.slice ae m.length ce, .int .i64 0]) (res_tt rfl rfl rfl) rfl ⟨_, rfl, HOK.out.below (by repeat' (first | with_reducible exact Below.refl _ _ | with_reducible assumption | with_reducible refine Below.drew ?_ | with_reducible refine Below.drewN ?_ _ | with_reducible refine Below.alloc ?_ ?_ _ | with_reducible refine Below.setCell ?_ ?_ _ | with_reducible refine Below.setRow ?_ ?_ _ | with_reducible refine below_step (by assumption) ?_ ?_ | (show (_ : Nat) ≤ _; first | omega | (simp <;> omega)))) (Nat.le_refl _), by repeat' (first | with_reducible exact Below.refl _ _ | with_reducible assumption | with_reducible refine Below.drew ?_ | with_reducible refine Below.drewN ?_ _ | with_reducible refine Below.alloc ?_ ?_ _ | with_reducible refine Below.setCell ?_ ?_ _ | with_reducible refine Below.setRow ?_ ?_ _ | with_reducible refine below_step (by assumption) ?_ ?_ | (show (_ : Nat) ≤ _; first | omega | (simp <;> omega)))⟩
  · rw [hv] at HX0
    rw [(of_no P hv).1, (of_no P hv).2]
    have HX := Lib.hid HX0
    clear h hpv hF hv HX0 hmx
    go_enter Tryz.func11, Tryz.ntmps11
    go_wp2_with (go_at_call 18; refine (HX.out _ (HH.out.below (by repeat' (first | with_reducible exact Below.refl _ _ | with_reducible assumption | with_reducible refine Below.drew ?_ | with_reducible refine Below.drewN ?_ _ | with_reducible refine Below.alloc ?_ ?_ _ | with_reducible refine Below.setCell ?_ ?_ _ | with_reducible refine Below.setRow ?_ ?_ _ | with_reducible refine below_step (by assumption) ?_ ?_ | (show (_ : Nat) ≤ _; first | omega | (simp <;> omega)))) (Nat.le_refl _))).mono ?_; rintro e w1 ⟨rfl, hb1⟩; have r1 := keep_rowA hb1; have f1 := keep_frA hb1; have s1 := hb1.size; (try simp only [World.size_alloc, World.size_setCell, setRow_size, World.size_drew, size_drewNm] at r1 f1 s1))
    refine bodyPost_ret (v := .tuple #[.slice none 0 0, .int .i64 1]) (res_tt rfl rfl rfl) rfl ⟨_, rfl, .inl ⟨rfl, rfl⟩, by repeat' (first | with_reducible exact Below.refl _ _ | with_reducible assumption | with_reducible refine Below.drew ?_ | with_reducible refine Below.drewN ?_ _ | with_reducible refine Below.alloc ?_ ?_ _ | with_reducible refine Below.setCell ?_ ?_ _ | with_reducible refine Below.setRow ?_ ?_ _ | with_reducible refine below_step (by assumption) ?_ ?_ | (show (_ : Nat) ≤ _; first | omega | (simp <;> omega)))⟩
end Go.Proofs.YtejnejplofddnaaGreatDoor
/- In how many orders marks make a picture: both sides. -/
namespace Go.Proofs.YtejnejplofddnaaGreatDoor
open Go.RowKit
set_option linter.unusedVariables false
set_option linter.unusedSimpArgs false
set_option maxRecDepth 100000
theorem co_no {c : Nat → Int} {n : Nat} {F : Nat → Mk} (P : List (List UInt8)) (h : vmB c n F = false) : coN c n F P = 0 ∧ coE c n F = 1 := by
  unfold coN coE
  rw [h, if_neg (by decide), if_neg (by decide)]
  exact ⟨rfl, rfl⟩
theorem co_yes {c : Nat → Int} {n : Nat} {F : Nat → Mk} (P : List (List UInt8)) (h : vmB c n F = true) : coN c n F P = ((allO c n F P).length : Int) ∧ coE c n F = 0 := by
  unfold coN coE
  rw [h, if_pos rfl, if_pos rfl]
  exact ⟨rfl, rfl⟩
set_option maxHeartbeats 4000000 in
theorem sCountOrders_any (c : Nat → Int) (hfc : FitSheet c) (v : Value) (n b : Nat) (F : Nat → Mk) (hn : n ≤ 1048576) (hF : ∀ k, k < n → MkIn (F k) ∧ (F k).n ≤ 1048576) (pv : Value) (bp : Nat) (P : List (List UInt8)) (hP : P.length ≤ 1048576) (w : World) (h : OwnM w b v n F) (hpv : OwnT w bp pv P) :
    Calls Tryz.prog 14 #[.agg (kc sk 266 c), v, pv] w fun e w' => e = .returned (.tuple #[.int .i64 (coN c n F P), .int .i64 (coE c n F)]) ∧ Below w.heap.size w w' := by
  have HX0 := fun p w h1 h2 h3 => l06Marks_any p c hfc v n b F hn hF w h1 h2 h3
  have HH := Lib.hid h
  have HPV := Lib.hid hpv
  rcases Bool.eq_false_or_eq_true (vmB c n F) with hv | hv
  · obtain ⟨hok, h6, hlay⟩ := vm_lay hv
    rw [hv] at HX0
    rw [(co_yes P hv).1, (co_yes P hv).2]
    have HX := Lib.hid HX0
    have HA := Lib.hid (fun p lv bl w h1 h2 h3 h4 h5 => sAll_any p c hfc hok v n b F h6 hlay pv bp P hP lv bl 0 w (Nat.zero_le _) (Nat.zero_le _) h1 h2 h3 h4 h5)
    clear h hpv hF hv hok hlay HX0
    generalize allO c n F P = L at *
    go_enter Tryz.func14, Tryz.ntmps14
    go_wp2_with (first | (go_at_call 44; refine (HX.out w.heap.size _ (by (go_simp <;> (intros; omega))) (by first | omega | (simp <;> omega)) (HH.out.below (by repeat' (first | with_reducible exact Below.refl _ _ | with_reducible assumption | with_reducible refine Below.drew ?_ | with_reducible refine Below.drewN ?_ _ | with_reducible refine Below.alloc ?_ ?_ _ | with_reducible refine Below.setCell ?_ ?_ _ | with_reducible refine Below.setRow ?_ ?_ _ | with_reducible refine below_step (by assumption) ?_ ?_ | (show (_ : Nat) ≤ _; first | omega | (simp <;> omega)))) (Nat.le_refl _))).mono ?_; rintro e w1 ⟨rfl, hb1⟩; have r1 := keep_rowA hb1; have f1 := keep_frA hb1; have s1 := hb1.size; (try simp only [World.size_alloc, World.size_setCell, setRow_size, World.size_drew, size_drewNm] at r1 f1 s1)) | (go_at_call 48; refine (HA.out w.heap.size _ w1.heap.size _ (by (go_simp <;> (intros; omega))) (by first | omega | (simp <;> omega)) (HH.out.below (by repeat' (first | with_reducible exact Below.refl _ _ | with_reducible assumption | with_reducible refine Below.drew ?_ | with_reducible refine Below.drewN ?_ _ | with_reducible refine Below.alloc ?_ ?_ _ | with_reducible refine Below.setCell ?_ ?_ _ | with_reducible refine Below.setRow ?_ ?_ _ | with_reducible refine below_step (by assumption) ?_ ?_ | (show (_ : Nat) ≤ _; first | omega | (simp <;> omega)))) (Nat.le_refl _)) (HPV.out.below (by repeat' (first | with_reducible exact Below.refl _ _ | with_reducible assumption | with_reducible refine Below.drew ?_ | with_reducible refine Below.drewN ?_ _ | with_reducible refine Below.alloc ?_ ?_ _ | with_reducible refine Below.setCell ?_ ?_ _ | with_reducible refine Below.setRow ?_ ?_ _ | with_reducible refine below_step (by assumption) ?_ ?_ | (show (_ : Nat) ≤ _; first | omega | (simp <;> omega)))) (Nat.le_refl _)) (own_empty_i64 _ _)).mono ?_; rintro e w2 ⟨v2, rfl, hall, hb2⟩; obtain ⟨ar, cr, rfl⟩ := hall.len; clear hall; have r_hb2 := keep_rowA hb2; have f_hb2 := keep_frA hb2; have s_hb2 := hb2.size; (try simp only [World.size_alloc, World.size_setCell, setRow_size, World.size_drew, size_drewNm] at r_hb2 f_hb2 s_hb2)))
    refine bodyPost_ret (v := (.tuple #[.int .i64 (L.length : Int), .int .i64 0])) (res_tt rfl rfl rfl) rfl ⟨rfl, by repeat' (first | with_reducible exact Below.refl _ _ | with_reducible assumption | with_reducible refine Below.drew ?_ | with_reducible refine Below.drewN ?_ _ | with_reducible refine Below.alloc ?_ ?_ _ | with_reducible refine Below.setCell ?_ ?_ _ | with_reducible refine Below.setRow ?_ ?_ _ | with_reducible refine below_step (by assumption) ?_ ?_ | (show (_ : Nat) ≤ _; first | omega | (simp <;> omega)))⟩
  · rw [hv] at HX0
    rw [(co_no P hv).1, (co_no P hv).2]
    have HX := Lib.hid HX0
    clear h hpv hF hv HX0
    go_enter Tryz.func14, Tryz.ntmps14
    go_wp2_with (go_at_call 44; refine (HX.out w.heap.size _ (by (go_simp <;> (intros; omega))) (by first | omega | (simp <;> omega)) (HH.out.below (by repeat' (first | with_reducible exact Below.refl _ _ | with_reducible assumption | with_reducible refine Below.drew ?_ | with_reducible refine Below.drewN ?_ _ | with_reducible refine Below.alloc ?_ ?_ _ | with_reducible refine Below.setCell ?_ ?_ _ | with_reducible refine Below.setRow ?_ ?_ _ | with_reducible refine below_step (by assumption) ?_ ?_ | (show (_ : Nat) ≤ _; first | omega | (simp <;> omega)))) (Nat.le_refl _))).mono ?_; rintro e w1 ⟨rfl, hb1⟩; have r1 := keep_rowA hb1; have f1 := keep_frA hb1; have s1 := hb1.size; (try simp only [World.size_alloc, World.size_setCell, setRow_size, World.size_drew, size_drewNm] at r1 f1 s1))
    refine bodyPost_ret (v := (.tuple #[.int .i64 0, .int .i64 1])) (res_tt rfl rfl rfl) rfl ⟨rfl, by repeat' (first | with_reducible exact Below.refl _ _ | with_reducible assumption | with_reducible refine Below.drew ?_ | with_reducible refine Below.drewN ?_ _ | with_reducible refine Below.alloc ?_ ?_ _ | with_reducible refine Below.setCell ?_ ?_ _ | with_reducible refine Below.setRow ?_ ?_ _ | with_reducible refine below_step (by assumption) ?_ ?_ | (show (_ : Nat) ≤ _; first | omega | (simp <;> omega)))⟩
set_option maxHeartbeats 4000000 in
theorem iCountOrders_any (c : Nat → Int) (hfc : FitSheet c) (v : Value) (n b : Nat) (F : Nat → Mk) (hn : n ≤ 1048576) (hF : ∀ k, k < n → MkIn (F k) ∧ (F k).n ≤ 1048576) (pv : Value) (bp : Nat) (P : List (List UInt8)) (hP : P.length ≤ 1048576) (w : World) (h : OwnM w b v n F) (hpv : OwnT w bp pv P) (hmx : MxW w) :
    Calls Tryz.prog 13 #[.agg (kc sk 266 c), v, pv] w fun e w' => e = .returned (.tuple #[.int .i64 (coN c n F P), .int .i64 (coE c n F)]) ∧ Below w.heap.size w w' := by
  have HX0 := fun w h1 => iValidMarks_any c hfc v n b F hn hF w h1
  have HH := Lib.hid h
  have HPV := Lib.hid hpv
  have HMX := Lib.hid hmx
  rcases Bool.eq_false_or_eq_true (vmB c n F) with hv | hv
  · obtain ⟨hok, h6, hlay⟩ := vm_lay hv
    rw [hv] at HX0
    rw [(co_yes P hv).1, (co_yes P hv).2]
    have HX := Lib.hid HX0
    have HA := Lib.hid (fun p w h1 h2 h3 h4 h5 => iAll_any p c hfc hok v n b F h6 hlay pv bp P hP 0 w (Nat.zero_le _) h1 h2 h3 h4 h5)
    have HSZ := Lib.hid (fun w0 v w1 w h => size_lists w0 0 v (allO c n F P) w1 w h)
    clear h hpv hF hv hok hlay HX0 hmx
    generalize allO c n F P = L at *
    go_enter Tryz.func13, Tryz.ntmps13
    go_wp2_with (first | (go_at_call 18; refine (HX.out _ (HH.out.below (by repeat' (first | with_reducible exact Below.refl _ _ | with_reducible assumption | with_reducible refine Below.drew ?_ | with_reducible refine Below.drewN ?_ _ | with_reducible refine Below.alloc ?_ ?_ _ | with_reducible refine Below.setCell ?_ ?_ _ | with_reducible refine Below.setRow ?_ ?_ _ | with_reducible refine below_step (by assumption) ?_ ?_ | (show (_ : Nat) ≤ _; first | omega | (simp <;> omega)))) (Nat.le_refl _))).mono ?_; rintro e w1 ⟨rfl, hb1⟩; have r1 := keep_rowA hb1; have f1 := keep_frA hb1; have s1 := hb1.size; (try simp only [World.size_alloc, World.size_setCell, setRow_size, World.size_drew, size_drewNm] at r1 f1 s1)) | (go_at_call 47; refine (HA.out w.heap.size _ (by (go_simp <;> (intros; omega))) (by first | omega | (simp <;> omega)) (HH.out.below (by repeat' (first | with_reducible exact Below.refl _ _ | with_reducible assumption | with_reducible refine Below.drew ?_ | with_reducible refine Below.drewN ?_ _ | with_reducible refine Below.alloc ?_ ?_ _ | with_reducible refine Below.setCell ?_ ?_ _ | with_reducible refine Below.setRow ?_ ?_ _ | with_reducible refine below_step (by assumption) ?_ ?_ | (show (_ : Nat) ≤ _; first | omega | (simp <;> omega)))) (Nat.le_refl _)) (HPV.out.below (by repeat' (first | with_reducible exact Below.refl _ _ | with_reducible assumption | with_reducible refine Below.drew ?_ | with_reducible refine Below.drewN ?_ _ | with_reducible refine Below.alloc ?_ ?_ _ | with_reducible refine Below.setCell ?_ ?_ _ | with_reducible refine Below.setRow ?_ ?_ _ | with_reducible refine below_step (by assumption) ?_ ?_ | (show (_ : Nat) ≤ _; first | omega | (simp <;> omega)))) (Nat.le_refl _)) (HMX.out.below (by repeat' (first | with_reducible exact Below.refl _ _ | with_reducible assumption | with_reducible refine Below.drew ?_ | with_reducible refine Below.drewN ?_ _ | with_reducible refine Below.alloc ?_ ?_ _ | with_reducible refine Below.setCell ?_ ?_ _ | with_reducible refine Below.setRow ?_ ?_ _ | with_reducible refine below_step (by assumption) ?_ ?_ | (show (_ : Nat) ≤ _; first | omega | (simp <;> omega)))))).mono ?_; rintro e w2 ⟨v2, rfl, hall, hb2⟩; have HALL := Lib.hid hall; clear hall; have r_hb2 := keep_rowA hb2; have f_hb2 := keep_frA hb2; have s_hb2 := hb2.size; (try simp only [World.size_alloc, World.size_setCell, setRow_size, World.size_drew, size_drewNm] at r_hb2 f_hb2 s_hb2)) | (go_at_call 49; refine (HSZ.out _ _ _ _ HALL.out).mono ?_; rintro e w3 ⟨rfl, rfl⟩))
    refine bodyPost_ret (v := (.tuple #[.int .i64 (L.length : Int), .int .i64 0])) (res_tt rfl rfl rfl) rfl ⟨rfl, by repeat' (first | with_reducible exact Below.refl _ _ | with_reducible assumption | with_reducible refine Below.drew ?_ | with_reducible refine Below.drewN ?_ _ | with_reducible refine Below.alloc ?_ ?_ _ | with_reducible refine Below.setCell ?_ ?_ _ | with_reducible refine Below.setRow ?_ ?_ _ | with_reducible refine below_step (by assumption) ?_ ?_ | (show (_ : Nat) ≤ _; first | omega | (simp <;> omega)))⟩
  · rw [hv] at HX0
    rw [(co_no P hv).1, (co_no P hv).2]
    have HX := Lib.hid HX0
    clear h hpv hF hv HX0
    go_enter Tryz.func13, Tryz.ntmps13
    go_wp2_with (go_at_call 18; refine (HX.out _ (HH.out.below (by repeat' (first | with_reducible exact Below.refl _ _ | with_reducible assumption | with_reducible refine Below.drew ?_ | with_reducible refine Below.drewN ?_ _ | with_reducible refine Below.alloc ?_ ?_ _ | with_reducible refine Below.setCell ?_ ?_ _ | with_reducible refine Below.setRow ?_ ?_ _ | with_reducible refine below_step (by assumption) ?_ ?_ | (show (_ : Nat) ≤ _; first | omega | (simp <;> omega)))) (Nat.le_refl _))).mono ?_; rintro e w1 ⟨rfl, hb1⟩; have r1 := keep_rowA hb1; have f1 := keep_frA hb1; have s1 := hb1.size; (try simp only [World.size_alloc, World.size_setCell, setRow_size, World.size_drew, size_drewNm] at r1 f1 s1))
    refine bodyPost_ret (v := (.tuple #[.int .i64 0, .int .i64 1])) (res_tt rfl rfl rfl) rfl ⟨rfl, by repeat' (first | with_reducible exact Below.refl _ _ | with_reducible assumption | with_reducible refine Below.drew ?_ | with_reducible refine Below.drewN ?_ _ | with_reducible refine Below.alloc ?_ ?_ _ | with_reducible refine Below.setCell ?_ ?_ _ | with_reducible refine Below.setRow ?_ ?_ _ | with_reducible refine below_step (by assumption) ?_ ?_ | (show (_ : Nat) ≤ _; first | omega | (simp <;> omega)))⟩
end Go.Proofs.YtejnejplofddnaaGreatDoor
/- Whether a mark is surely before another one: both sides. -/
namespace Go.Proofs.YtejnejplofddnaaGreatDoor
open Go.RowKit
set_option linter.unusedVariables false
set_option linter.unusedSimpArgs false
set_option maxRecDepth 100000
theorem od_cells {w : World} {base : Nat} {e : TypeId} {g cap n : Nat} {xs : List Value} (h : w.ownsRow base e 1 (.slice (some ⟨g, 0, none⟩) n cap) n xs) : g < w.heap.size ∧ n ≤ (rowOf w g).size ∧ frOf w g = (0, 0) ∧ ∀ (j : Nat) (x : Value), xs[j]? = some x → (rowOf w g)[j]? = some x := by
  obtain ⟨hl, ⟨h0, -⟩ | ⟨g', cap', cur, hv, hb, hg, h1, h2, h3, ht⟩⟩ := h
  · cases h0
  · simp only [Value.slice.injEq, Option.some.injEq, Addr.mk.injEq] at hv
    obtain ⟨⟨rfl, -, -⟩, -, rfl⟩ := hv
    have hrow : rowOf w g = cur := by simp [rowOf, hg, objRow]
    refine ⟨(Array.getElem?_eq_some_iff.1 hg).1, by rw [hrow]; omega, by simp [frOf, hg, objFr], fun j x hx => ?_⟩
    rw [hrow, ← Array.getElem?_toList]
    have hj : j < n := by have := (List.getElem?_eq_some_iff.1 hx).1; omega
    have := congrArg (fun q => q[j]?) ht
    simp only [List.getElem?_take] at this
    rw [if_pos (by omega)] at this
    rw [this]
    exact hx
theorem AllW.at {w w' : World} {B : Nat} {v : Value} {L : List (List Nat)} (h : AllW w w' B v L) (h0 : 0 < L.length) : ∃ g cap, v = .slice (some ⟨g, 0, none⟩) L.length cap ∧ g < w'.heap.size ∧ L.length ≤ (rowOf w' g).size ∧ ∀ (k : Nat) (m : List Nat), L[k]? = some m → ∃ ev, (rowOf w' g)[k]? = some ev ∧ OwnK .i64 1 w' B ev m.length (nl m) := by
  obtain ⟨D, h, rfl, hD⟩ := h
  rw [odL_len] at h0 ⊢
  obtain ⟨g, cap, rfl, -, -⟩ := owns_posP h h0
  obtain ⟨h1, h2, -, h3⟩ := od_cells h
  refine ⟨g, cap, rfl, h1, h2, fun k m hm => ?_⟩
  unfold odL at hm
  rw [List.getElem?_map] at hm
  cases hd : D[k]? with
  | none => rw [hd] at hm; cases hm
  | some d =>
    rw [hd] at hm
    obtain rfl := Option.some.inj hm
    have hb := hD d (List.mem_of_getElem? hd)
    exact ⟨d.1, h3 k d.1 (by unfold odV; rw [List.getElem?_map, hd]; rfl), hb⟩
theorem belowQ (w : World) (n : Nat) : Below w.heap.size w (w.drewN n) := by repeat' (first | with_reducible exact Below.refl _ _ | with_reducible assumption | with_reducible refine Below.drew ?_ | with_reducible refine Below.drewN ?_ _ | with_reducible refine Below.alloc ?_ ?_ _ | with_reducible refine Below.setCell ?_ ?_ _ | with_reducible refine Below.setRow ?_ ?_ _ | with_reducible refine below_step (by assumption) ?_ ?_ | (show (_ : Nat) ≤ _; first | omega | (simp <;> omega)))
/-- One stands behind the other. -/
def behB (a b : Nat) (m : List Nat) : Bool := decide (ixL m b < ixL m a)
def suB (L : List (List Nat)) (a b : Nat) : Bool := !(L.any (behB a b))
theorem su_no {L : List (List Nat)} {a b k : Nat} {m : List Nat} (hm : L[k]? = some m) (h : behB a b m = true) : suB L a b = false := by
  unfold suB
  rw [List.any_eq_true.2 ⟨m, List.mem_of_getElem? hm, h⟩]; rfl
theorem su_yes {L : List (List Nat)} {a b : Nat} (h : ∀ j m, j < L.length → L[j]? = some m → behB a b m = false) : suB L a b = true := by
  unfold suB
  rw [Bool.not_eq_true', List.any_eq_false]
  intro m hm
  obtain ⟨j, hj, rfl⟩ := List.getElem_of_mem hm
  rw [h j _ hj (List.getElem?_eq_getElem hj)]; decide
set_option maxHeartbeats 4000000 in
theorem l06Place_q (lv : Value) (b : Nat) (l : List Nat) (hl : l.length ≤ 1048576) (i : Nat) (w : World) (h : OwnK .i64 1 w b lv l.length (nl l)) :
    Calls Tryz.prog 73 #[lv, .int .i64 (i : Int)] w fun e w' => e = .returned (.int .i64 (ixL l i)) ∧ w' = w := by
  have HH := Lib.hid h
  obtain ⟨a, cap, rfl⟩ := h.len
  clear h
  go_enter Tryz.func73, Tryz.ntmps73
  go_wp2
  go_loopw [5] (fun z wr => ∃ k : Nat, k ≤ l.length ∧ z = .int .i64 k ∧ w = wr ∧ ∀ j, j < k → l[j]? ≠ some i) (fun z wr => l.length + 1 - (intOf z).toNat)
  case atStart => exact ⟨0, by omega, rfl, rfl, fun j hj => absurd hj (by omega)⟩
  case round =>
    obtain ⟨k, hk, rfl, rfl, hno⟩ := hrel
    have HNO := Lib.hid hno
    clear hno
    by_cases hlt : k < l.length
    · obtain ⟨g, cap', hv, -, hg, -, hRs, hc⟩ := HH.out.pos (by omega)
      simp only [Value.slice.injEq] at hv
      obtain ⟨rfl, -, rfl⟩ := hv
      obtain ⟨x, hx⟩ : ∃ x, l[k]? = some x := ⟨_, List.getElem?_eq_getElem hlt⟩
      have e0 := hc k (by omega)
      rw [nl_at hx] at e0
      have hlt2 : (k : Int) < (l.length : Int) := by omega
      have hw1 : IntKind.i64.wrap ((k : Int) + 1) = ((k + 1 : Nat) : Int) := by rw [IntWalk.i64_in _ (by omega)]; rfl
      clear hc hRs
      by_cases hxi : x = i
      · subst hxi
        have HI := Lib.hid (ixL_hit hx HNO.out)
        clear hx
        go_wp2
        go_ret
        exact ⟨by rw [HI.out]; rfl, rfl⟩
      · have h1 : ((x : Int) == (i : Int)) = false := by rw [beq_eq_false_iff_ne]; omega
        have h2 : ¬ x = i := hxi
        have h3 : ¬ (x : Int) = (i : Int) := by omega
        have HN := Lib.hid (show ∀ j, j < k + 1 → l[j]? ≠ some i from fun j hj => by
          rcases Nat.lt_succ_iff_lt_or_eq.1 hj with h | rfl
          · exact HNO.out j h
          · rw [hx]; exact fun e => hxi (Option.some.inj e))
        clear hx
        go_wp2
        go_roundw
        case rel => first | exact ⟨k + 1, by omega, by go_num, (by first | rfl | trivial), HN.out⟩ | ((repeat (with_reducible apply Exists.intro)); refine And.intro ?_ ?_; rotate_left; (focus ((repeat' (with_reducible apply And.intro)) <;> rfl)); exact ⟨k + 1, by omega, by go_num, (by first | rfl | trivial), HN.out⟩)
        case measure => simp [intOf]; omega
    · have hke : k = l.length := by omega
      subst hke
      have HI := Lib.hid (ixL_miss HNO.out)
      go_wp2
      go_ret
      exact ⟨by rw [HI.out]; rfl, rfl⟩
set_option maxHeartbeats 4000000 in
theorem index_q (lv : Value) (b : Nat) (l : List Nat) (hl : l.length ≤ 1048576) (i : Nat) (w : World) (h : OwnK .i64 1 w b lv l.length (nl l)) :
    Calls Tryz.prog 71 #[lv, .int .i64 (i : Int)] w fun e w' => e = .returned (.int .i64 (ixL l i)) ∧ w' = w := by
  have HH := Lib.hid h
  obtain ⟨a, cap, rfl⟩ := h.len
  clear h
  go_enter Tryz.func71, Tryz.ntmps71
  go_wp2
  go_loopw [8] (fun z wr => ∃ k : Nat, k ≤ l.length ∧ z = .int .i64 k ∧ w = wr ∧ ∀ j, j < k → l[j]? ≠ some i) (fun z wr => l.length + 1 - (intOf z).toNat)
  case atStart => exact ⟨0, by omega, rfl, rfl, fun j hj => absurd hj (by omega)⟩
  case round =>
    obtain ⟨k, hk, rfl, rfl, hno⟩ := hrel
    have HNO := Lib.hid hno
    clear hno
    by_cases hlt : k < l.length
    · obtain ⟨g, cap', hv, -, hg, -, hRs, hc⟩ := HH.out.pos (by omega)
      simp only [Value.slice.injEq] at hv
      obtain ⟨rfl, -, rfl⟩ := hv
      obtain ⟨x, hx⟩ : ∃ x, l[k]? = some x := ⟨_, List.getElem?_eq_getElem hlt⟩
      have e0 := hc k (by omega)
      rw [nl_at hx] at e0
      have hlt2 : (k : Int) < (l.length : Int) := by omega
      have hw1 : IntKind.i64.wrap ((k : Int) + 1) = ((k + 1 : Nat) : Int) := by rw [IntWalk.i64_in _ (by omega)]; rfl
      clear hc hRs
      by_cases hxi : x = i
      · subst hxi
        have HI := Lib.hid (ixL_hit hx HNO.out)
        clear hx
        go_wp2
        go_ret
        exact ⟨by rw [HI.out]; rfl, rfl⟩
      · have h1 : ((i : Int) == (x : Int)) = false := by rw [beq_eq_false_iff_ne]; omega
        have h2 : ¬ i = x := fun e => hxi e.symm
        have h3 : ¬ (i : Int) = (x : Int) := by omega
        have HN := Lib.hid (show ∀ j, j < k + 1 → l[j]? ≠ some i from fun j hj => by
          rcases Nat.lt_succ_iff_lt_or_eq.1 hj with h | rfl
          · exact HNO.out j h
          · rw [hx]; exact fun e => hxi (Option.some.inj e))
        clear hx
        go_wp2
        go_roundw
        case rel => first | exact ⟨k + 1, by omega, by go_num, (by first | rfl | trivial), HN.out⟩ | ((repeat (with_reducible apply Exists.intro)); refine And.intro ?_ ?_; rotate_left; (focus ((repeat' (with_reducible apply And.intro)) <;> rfl)); exact ⟨k + 1, by omega, by go_num, (by first | rfl | trivial), HN.out⟩)
        case measure => simp [intOf]; omega
    · have hke : k = l.length := by omega
      subst hke
      have HI := Lib.hid (ixL_miss HNO.out)
      go_wp2
      go_ret
      exact ⟨by rw [HI.out]; rfl, rfl⟩
def rngB (n : Nat) (a b : Int) : Bool := inB a 0 ((n : Int) - 1) && (inB b 0 ((n : Int) - 1) && !(a == b))
noncomputable def surB (c : Nat → Int) (n : Nat) (F : Nat → Mk) (P : List (List UInt8)) (a b : Int) : Bool := vmB c n F && (rngB n a b && (!(allO c n F P).isEmpty && suB (allO c n F P) a.toNat b.toNat))
noncomputable def surE (c : Nat → Int) (n : Nat) (F : Nat → Mk) (P : List (List UInt8)) (a b : Int) : Int := if vmB c n F = true then (if rngB n a b = true then (if (allO c n F P).isEmpty = true then 6 else 0) else 2) else 1
theorem sur_bad {c : Nat → Int} {n : Nat} {F : Nat → Mk} (P : List (List UInt8)) (a b : Int) (h : vmB c n F = false) : surB c n F P a b = false ∧ surE c n F P a b = 1 := by
  unfold surB surE
  rw [h, if_neg (by decide)]
  exact ⟨rfl, rfl⟩
theorem sur_rng {c : Nat → Int} {n : Nat} {F : Nat → Mk} (P : List (List UInt8)) {a b : Int} (h : vmB c n F = true) (hr : rngB n a b = false) : surB c n F P a b = false ∧ surE c n F P a b = 2 := by
  unfold surB surE
  rw [h, hr, if_pos rfl, if_neg (by decide)]
  exact ⟨rfl, rfl⟩
theorem sur_none {c : Nat → Int} {n : Nat} {F : Nat → Mk} {P : List (List UInt8)} {a b : Int} (h : vmB c n F = true) (hr : rngB n a b = true) (hl : allO c n F P = []) : surB c n F P a b = false ∧ surE c n F P a b = 6 := by
  unfold surB surE
  rw [h, hr, hl, if_pos rfl, if_pos rfl]
  exact ⟨rfl, rfl⟩
theorem sur_some {c : Nat → Int} {n : Nat} {F : Nat → Mk} {P : List (List UInt8)} {a b : Int} (h : vmB c n F = true) (hr : rngB n a b = true) (hl : (allO c n F P).isEmpty = false) : surB c n F P a b = suB (allO c n F P) a.toNat b.toNat ∧ surE c n F P a b = 0 := by
  unfold surB surE
  rw [h, hr, hl, if_pos rfl, if_pos rfl, if_neg (by decide)]
  exact ⟨rfl, rfl⟩
set_option maxHeartbeats 8000000 in
theorem sSurelyBefore_any (c : Nat → Int) (hfc : FitSheet c) (v : Value) (n q : Nat) (F : Nat → Mk) (hn : n ≤ 1048576) (hF : ∀ k, k < n → MkIn (F k) ∧ (F k).n ≤ 1048576) (pv : Value) (bp : Nat) (P : List (List UInt8)) (hP : P.length ≤ 1048576) (a b : Int) (w : World) (h : OwnM w q v n F) (hpv : OwnT w bp pv P) :
    Calls Tryz.prog 23 #[.agg (kc sk 266 c), v, pv, .int .i64 a, .int .i64 b] w fun e w' => e = .returned (.tuple #[.bool (surB c n F P a b), .int .i64 (surE c n F P a b)]) ∧ Below w.heap.size w w' := by
  have HX0 := fun p w h1 h2 h3 => l06Marks_any p c hfc v n q F hn hF w h1 h2 h3
  have HH := Lib.hid h
  have HPV := Lib.hid hpv
  have hw1 : IntKind.i64.wrap ((n : Int) - 1) = (n : Int) - 1 := IntWalk.i64_in _ (by omega)
  obtain ⟨am, cm, rfl⟩ := h.1.len
  rcases Bool.eq_false_or_eq_true (vmB c n F) with hv | hv
  case inr =>
    rw [hv] at HX0
    rw [(sur_bad P a b hv).1, (sur_bad P a b hv).2]
    have HX := Lib.hid HX0
    clear h hpv hF hv HX0
    go_enter Tryz.func23, Tryz.ntmps23
    go_wp2_with (go_at_call 44; refine (HX.out w.heap.size _ (by (go_simp <;> (intros; omega))) (by first | omega | (simp <;> omega)) (HH.out.below (by repeat' (first | with_reducible exact Below.refl _ _ | with_reducible assumption | with_reducible refine Below.drew ?_ | with_reducible refine Below.drewN ?_ _ | with_reducible refine Below.alloc ?_ ?_ _ | with_reducible refine Below.setCell ?_ ?_ _ | with_reducible refine Below.setRow ?_ ?_ _ | with_reducible refine below_step (by assumption) ?_ ?_ | (show (_ : Nat) ≤ _; first | omega | (simp <;> omega)))) (Nat.le_refl _))).mono ?_; rintro e w1 ⟨rfl, hb1⟩; have r1 := keep_rowA hb1; have f1 := keep_frA hb1; have s1 := hb1.size; (try simp only [World.size_alloc, World.size_setCell, setRow_size, World.size_drew, size_drewNm] at r1 f1 s1))
    refine bodyPost_ret (v := (.tuple #[.bool false, .int .i64 1])) (res_tt rfl rfl rfl) rfl ⟨rfl, by repeat' (first | with_reducible exact Below.refl _ _ | with_reducible assumption | with_reducible refine Below.drew ?_ | with_reducible refine Below.drewN ?_ _ | with_reducible refine Below.alloc ?_ ?_ _ | with_reducible refine Below.setCell ?_ ?_ _ | with_reducible refine Below.setRow ?_ ?_ _ | with_reducible refine below_step (by assumption) ?_ ?_ | (show (_ : Nat) ≤ _; first | omega | (simp <;> omega)))⟩
  obtain ⟨hok, h6, hlay⟩ := vm_lay hv
  rw [hv] at HX0
  have HX := Lib.hid HX0
  have HRN := Lib.hid (fun hr => sur_rng (n := n) (F := F) P (a := a) (b := b) hv hr)
  have HNO := Lib.hid (fun hr hl => sur_none (n := n) (F := F) (P := P) (a := a) (b := b) hv hr hl)
  have HSO := Lib.hid (fun hr hl => sur_some (n := n) (F := F) (P := P) (a := a) (b := b) hv hr hl)
  have HA0 := fun w => l00In_any a 0 ((n : Int) - 1) w
  have HB0 := fun w => l00In_any b 0 ((n : Int) - 1) w
  have HL := Lib.hid (fun p lv bl w h1 h2 h3 h4 h5 => sAll_any p c hfc hok (.slice am n cm) n q F h6 hlay pv bp P hP lv bl 0 w (Nat.zero_le _) (Nat.zero_le _) h1 h2 h3 h4 h5)
  have HLN := Lib.hid (fun (m : List Nat) (h : m ∈ allO c n F P) => (allO_len h).1)
  have HFW := Lib.hid (allO_few (c := c) (F := F) (P := P) h6)
  have HIN := Lib.hid (fun (x : Int) (h : inB x 0 ((n : Int) - 1) = true) => inB_true.1 h)
  clear h hpv hF hv hok hlay HX0
  have hrE : rngB n a b = (inB a 0 ((n : Int) - 1) && (inB b 0 ((n : Int) - 1) && !(a == b))) := rfl
  rcases Bool.eq_false_or_eq_true (inB a 0 ((n : Int) - 1)) with hA | hA
  case inr =>
    rw [hA] at HA0
    rw [hA] at hrE
    rw [(HRN.out hrE).1, (HRN.out hrE).2]
    have HA := Lib.hid HA0
    clear HA0 HB0 hA hrE
    go_enter Tryz.func23, Tryz.ntmps23
    go_wp2_with (first | (go_at_call 44; refine (HX.out w.heap.size _ (by (go_simp <;> (intros; omega))) (by first | omega | (simp <;> omega)) (HH.out.below (by repeat' (first | with_reducible exact Below.refl _ _ | with_reducible assumption | with_reducible refine Below.drew ?_ | with_reducible refine Below.drewN ?_ _ | with_reducible refine Below.alloc ?_ ?_ _ | with_reducible refine Below.setCell ?_ ?_ _ | with_reducible refine Below.setRow ?_ ?_ _ | with_reducible refine below_step (by assumption) ?_ ?_ | (show (_ : Nat) ≤ _; first | omega | (simp <;> omega)))) (Nat.le_refl _))).mono ?_; rintro e w1 ⟨rfl, hb1⟩; have r1 := keep_rowA hb1; have f1 := keep_frA hb1; have s1 := hb1.size; (try simp only [World.size_alloc, World.size_setCell, setRow_size, World.size_drew, size_drewNm] at r1 f1 s1)) | (go_at_call 72; refine (HA.out _).mono ?_; rintro e w2 ⟨rfl, rfl⟩))
    refine bodyPost_ret (v := (.tuple #[.bool false, .int .i64 2])) (res_tt rfl rfl rfl) rfl ⟨rfl, by repeat' (first | with_reducible exact Below.refl _ _ | with_reducible assumption | with_reducible refine Below.drew ?_ | with_reducible refine Below.drewN ?_ _ | with_reducible refine Below.alloc ?_ ?_ _ | with_reducible refine Below.setCell ?_ ?_ _ | with_reducible refine Below.setRow ?_ ?_ _ | with_reducible refine below_step (by assumption) ?_ ?_ | (show (_ : Nat) ≤ _; first | omega | (simp <;> omega)))⟩
  rw [hA] at HA0
  have HA := Lib.hid HA0
  rw [hA, Bool.true_and] at hrE
  have hA' := HIN.out a hA
  clear HA0 hA
  rcases Bool.eq_false_or_eq_true (inB b 0 ((n : Int) - 1)) with hB | hB
  case inr =>
    rw [hB] at HB0
    rw [hB] at hrE
    rw [(HRN.out hrE).1, (HRN.out hrE).2]
    have HB := Lib.hid HB0
    clear HB0 hB hrE
    go_enter Tryz.func23, Tryz.ntmps23
    go_wp2_with (first | (go_at_call 44; refine (HX.out w.heap.size _ (by (go_simp <;> (intros; omega))) (by first | omega | (simp <;> omega)) (HH.out.below (by repeat' (first | with_reducible exact Below.refl _ _ | with_reducible assumption | with_reducible refine Below.drew ?_ | with_reducible refine Below.drewN ?_ _ | with_reducible refine Below.alloc ?_ ?_ _ | with_reducible refine Below.setCell ?_ ?_ _ | with_reducible refine Below.setRow ?_ ?_ _ | with_reducible refine below_step (by assumption) ?_ ?_ | (show (_ : Nat) ≤ _; first | omega | (simp <;> omega)))) (Nat.le_refl _))).mono ?_; rintro e w1 ⟨rfl, hb1⟩; have r1 := keep_rowA hb1; have f1 := keep_frA hb1; have s1 := hb1.size; (try simp only [World.size_alloc, World.size_setCell, setRow_size, World.size_drew, size_drewNm] at r1 f1 s1)) | (go_at_call 72; (with_reducible refine (HA.out _).mono ?_); rintro e w2 ⟨rfl, rfl⟩) | (go_at_call 72; (with_reducible refine (HB.out _).mono ?_); rintro e w2 ⟨rfl, rfl⟩))
    refine bodyPost_ret (v := (.tuple #[.bool false, .int .i64 2])) (res_tt rfl rfl rfl) rfl ⟨rfl, by repeat' (first | with_reducible exact Below.refl _ _ | with_reducible assumption | with_reducible refine Below.drew ?_ | with_reducible refine Below.drewN ?_ _ | with_reducible refine Below.alloc ?_ ?_ _ | with_reducible refine Below.setCell ?_ ?_ _ | with_reducible refine Below.setRow ?_ ?_ _ | with_reducible refine below_step (by assumption) ?_ ?_ | (show (_ : Nat) ≤ _; first | omega | (simp <;> omega)))⟩
  rw [hB] at HB0
  have HB := Lib.hid HB0
  rw [hB, Bool.true_and] at hrE
  have hB' := HIN.out b hB
  clear HB0 hB
  by_cases hab : a = b
  · subst hab
    have hrE2 : rngB n a a = false := by rw [hrE]; simp
    rw [(HRN.out hrE2).1, (HRN.out hrE2).2]
    clear hrE hrE2
    go_enter Tryz.func23, Tryz.ntmps23
    go_wp2_with (first | (go_at_call 44; refine (HX.out w.heap.size _ (by (go_simp <;> (intros; omega))) (by first | omega | (simp <;> omega)) (HH.out.below (by repeat' (first | with_reducible exact Below.refl _ _ | with_reducible assumption | with_reducible refine Below.drew ?_ | with_reducible refine Below.drewN ?_ _ | with_reducible refine Below.alloc ?_ ?_ _ | with_reducible refine Below.setCell ?_ ?_ _ | with_reducible refine Below.setRow ?_ ?_ _ | with_reducible refine below_step (by assumption) ?_ ?_ | (show (_ : Nat) ≤ _; first | omega | (simp <;> omega)))) (Nat.le_refl _))).mono ?_; rintro e w1 ⟨rfl, hb1⟩; have r1 := keep_rowA hb1; have f1 := keep_frA hb1; have s1 := hb1.size; (try simp only [World.size_alloc, World.size_setCell, setRow_size, World.size_drew, size_drewNm] at r1 f1 s1)) | (go_at_call 72; (with_reducible refine (HA.out _).mono ?_); rintro e w2 ⟨rfl, rfl⟩))
    refine bodyPost_ret (v := (.tuple #[.bool false, .int .i64 2])) (res_tt rfl rfl rfl) rfl ⟨rfl, by repeat' (first | with_reducible exact Below.refl _ _ | with_reducible assumption | with_reducible refine Below.drew ?_ | with_reducible refine Below.drewN ?_ _ | with_reducible refine Below.alloc ?_ ?_ _ | with_reducible refine Below.setCell ?_ ?_ _ | with_reducible refine Below.setRow ?_ ?_ _ | with_reducible refine below_step (by assumption) ?_ ?_ | (show (_ : Nat) ≤ _; first | omega | (simp <;> omega)))⟩
  have hab1 : (a == b) = false := by rw [beq_eq_false_iff_ne]; exact hab
  have hrE2 : rngB n a b = true := by rw [hrE, hab1]; rfl
  clear hrE
  obtain ⟨x, rfl⟩ : ∃ x : Nat, a = x := ⟨a.toNat, by omega⟩
  obtain ⟨y, rfl⟩ : ∃ y : Nat, b = y := ⟨b.toNat, by omega⟩
  have hxy : ¬ x = y := fun e => hab (by rw [e])
  rcases hLL : allO c n F P with _ | ⟨l0, L'⟩
  · rw [(HNO.out hrE2 hLL).1, (HNO.out hrE2 hLL).2]
    rw [hLL] at HL
    clear hLL hrE2
    go_enter Tryz.func23, Tryz.ntmps23
    go_wp2_with (first | (go_at_call 44; refine (HX.out w.heap.size _ (by (go_simp <;> (intros; omega))) (by first | omega | (simp <;> omega)) (HH.out.below (by repeat' (first | with_reducible exact Below.refl _ _ | with_reducible assumption | with_reducible refine Below.drew ?_ | with_reducible refine Below.drewN ?_ _ | with_reducible refine Below.alloc ?_ ?_ _ | with_reducible refine Below.setCell ?_ ?_ _ | with_reducible refine Below.setRow ?_ ?_ _ | with_reducible refine below_step (by assumption) ?_ ?_ | (show (_ : Nat) ≤ _; first | omega | (simp <;> omega)))) (Nat.le_refl _))).mono ?_; rintro e w1 ⟨rfl, hb1⟩; have r1 := keep_rowA hb1; have f1 := keep_frA hb1; have s1 := hb1.size; (try simp only [World.size_alloc, World.size_setCell, setRow_size, World.size_drew, size_drewNm] at r1 f1 s1)) | (go_at_call 72; (with_reducible refine (HA.out _).mono ?_); rintro e w2 ⟨rfl, rfl⟩) | (go_at_call 72; (with_reducible refine (HB.out _).mono ?_); rintro e w2 ⟨rfl, rfl⟩) | (go_at_call 48; refine (HL.out w.heap.size _ w1.heap.size _ (by (go_simp <;> (intros; omega))) (by first | omega | (simp <;> omega)) (HH.out.below (by repeat' (first | with_reducible exact Below.refl _ _ | with_reducible assumption | with_reducible refine Below.drew ?_ | with_reducible refine Below.drewN ?_ _ | with_reducible refine Below.alloc ?_ ?_ _ | with_reducible refine Below.setCell ?_ ?_ _ | with_reducible refine Below.setRow ?_ ?_ _ | with_reducible refine below_step (by assumption) ?_ ?_ | (show (_ : Nat) ≤ _; first | omega | (simp <;> omega)))) (Nat.le_refl _)) (HPV.out.below (by repeat' (first | with_reducible exact Below.refl _ _ | with_reducible assumption | with_reducible refine Below.drew ?_ | with_reducible refine Below.drewN ?_ _ | with_reducible refine Below.alloc ?_ ?_ _ | with_reducible refine Below.setCell ?_ ?_ _ | with_reducible refine Below.setRow ?_ ?_ _ | with_reducible refine below_step (by assumption) ?_ ?_ | (show (_ : Nat) ≤ _; first | omega | (simp <;> omega)))) (Nat.le_refl _)) (own_empty_i64 _ _)).mono ?_; rintro e w3 ⟨v3, rfl, hall, hb3⟩; obtain ⟨ar, cr, rfl⟩ := hall.len; clear hall; have r_hb3 := keep_rowA hb3; have f_hb3 := keep_frA hb3; have s_hb3 := hb3.size; (try simp only [World.size_alloc, World.size_setCell, setRow_size, World.size_drew, size_drewNm] at r_hb3 f_hb3 s_hb3)))
    refine bodyPost_ret (v := (.tuple #[.bool false, .int .i64 6])) (res_tt rfl rfl rfl) rfl ⟨rfl, by repeat' (first | with_reducible exact Below.refl _ _ | with_reducible assumption | with_reducible refine Below.drew ?_ | with_reducible refine Below.drewN ?_ _ | with_reducible refine Below.alloc ?_ ?_ _ | with_reducible refine Below.setCell ?_ ?_ _ | with_reducible refine Below.setRow ?_ ?_ _ | with_reducible refine below_step (by assumption) ?_ ?_ | (show (_ : Nat) ≤ _; first | omega | (simp <;> omega)))⟩
  · have hne : (allO c n F P).isEmpty = false := by rw [hLL]; rfl
    rw [(HSO.out hrE2 hne).1, (HSO.out hrE2 hne).2]
    have hL0 : 0 < (allO c n F P).length := by rw [hLL]; simp
    have hLF := HFW.out
    rw [Int.toNat_natCast, Int.toNat_natCast]
    clear hLL hne hrE2
    generalize allO c n F P = L at *
    have hl0 : ((L.length : Int) == 0) = false := by rw [beq_eq_false_iff_ne]; omega
    have hl1 : ¬ (L.length : Int) = 0 := by omega
    go_enter Tryz.func23, Tryz.ntmps23
    go_wp2_with (first | (go_at_call 44; refine (HX.out w.heap.size _ (by (go_simp <;> (intros; omega))) (by first | omega | (simp <;> omega)) (HH.out.below (by repeat' (first | with_reducible exact Below.refl _ _ | with_reducible assumption | with_reducible refine Below.drew ?_ | with_reducible refine Below.drewN ?_ _ | with_reducible refine Below.alloc ?_ ?_ _ | with_reducible refine Below.setCell ?_ ?_ _ | with_reducible refine Below.setRow ?_ ?_ _ | with_reducible refine below_step (by assumption) ?_ ?_ | (show (_ : Nat) ≤ _; first | omega | (simp <;> omega)))) (Nat.le_refl _))).mono ?_; rintro e w1 ⟨rfl, hb1⟩; have r1 := keep_rowA hb1; have f1 := keep_frA hb1; have s1 := hb1.size; (try simp only [World.size_alloc, World.size_setCell, setRow_size, World.size_drew, size_drewNm] at r1 f1 s1)) | (go_at_call 72; (with_reducible refine (HA.out _).mono ?_); rintro e w2 ⟨rfl, rfl⟩) | (go_at_call 72; (with_reducible refine (HB.out _).mono ?_); rintro e w2 ⟨rfl, rfl⟩) | (go_at_call 48; refine (HL.out w.heap.size _ w1.heap.size _ (by (go_simp <;> (intros; omega))) (by first | omega | (simp <;> omega)) (HH.out.below (by repeat' (first | with_reducible exact Below.refl _ _ | with_reducible assumption | with_reducible refine Below.drew ?_ | with_reducible refine Below.drewN ?_ _ | with_reducible refine Below.alloc ?_ ?_ _ | with_reducible refine Below.setCell ?_ ?_ _ | with_reducible refine Below.setRow ?_ ?_ _ | with_reducible refine below_step (by assumption) ?_ ?_ | (show (_ : Nat) ≤ _; first | omega | (simp <;> omega)))) (Nat.le_refl _)) (HPV.out.below (by repeat' (first | with_reducible exact Below.refl _ _ | with_reducible assumption | with_reducible refine Below.drew ?_ | with_reducible refine Below.drewN ?_ _ | with_reducible refine Below.alloc ?_ ?_ _ | with_reducible refine Below.setCell ?_ ?_ _ | with_reducible refine Below.setRow ?_ ?_ _ | with_reducible refine below_step (by assumption) ?_ ?_ | (show (_ : Nat) ≤ _; first | omega | (simp <;> omega)))) (Nat.le_refl _)) (own_empty_i64 _ _)).mono ?_; rintro e w3 ⟨v3, rfl, hall, hb3⟩; obtain ⟨g, cr, rfl, hg, hgs, hcs⟩ := hall.at hL0; have HCS := Lib.hid hcs; clear hall hcs; have r_hb3 := keep_rowA hb3; have f_hb3 := keep_frA hb3; have s_hb3 := hb3.size; (try simp only [World.size_alloc, World.size_setCell, setRow_size, World.size_drew, size_drewNm] at r_hb3 f_hb3 s_hb3)))
    have hb33 : Below w.heap.size w w3 := by repeat' (first | with_reducible exact Below.refl _ _ | with_reducible assumption | with_reducible refine Below.drew ?_ | with_reducible refine Below.drewN ?_ _ | with_reducible refine Below.alloc ?_ ?_ _ | with_reducible refine Below.setCell ?_ ?_ _ | with_reducible refine Below.setRow ?_ ?_ _ | with_reducible refine below_step (by assumption) ?_ ?_ | (show (_ : Nat) ≤ _; first | omega | (simp <;> omega)))
    go_loopw [14] (fun i wr => ∃ k : Nat, k ≤ L.length ∧ i = .int .i64 k ∧ Below w3.heap.size w3 wr ∧ ∀ j m, j < k → L[j]? = some m → behB x y m = false) (fun i wr => L.length + 1 - (intOf i).toNat)
    case atStart => exact ⟨0, by omega, rfl, by repeat' (first | with_reducible exact Below.refl _ _ | with_reducible assumption | with_reducible refine Below.drew ?_ | with_reducible refine Below.drewN ?_ _ | with_reducible refine Below.alloc ?_ ?_ _ | with_reducible refine Below.setCell ?_ ?_ _ | with_reducible refine Below.setRow ?_ ?_ _ | with_reducible refine below_step (by assumption) ?_ ?_ | (show (_ : Nat) ≤ _; first | omega | (simp <;> omega))), fun j m hj => absurd hj (by omega)⟩
    case round =>
      obtain ⟨k, hk, rfl, hb, hno⟩ := hrel
      have HNO2 := Lib.hid hno
      have hszb := hb.size
      clear hno
      by_cases hlt : k < L.length
      · obtain ⟨m, hm⟩ : ∃ m, L[k]? = some m := ⟨_, List.getElem?_eq_getElem hlt⟩
        obtain ⟨ev, hce, hok⟩ := HCS.out k m hm
        have hm20 : m.length ≤ 1048576 := by have := HLN.out m (List.mem_of_getElem? hm); omega
        obtain ⟨ae, ce, rfl⟩ := hok.len
        have HOK := Lib.hid (hok.below hb (Nat.le_refl _))
        rw [← keep_row hb hg] at hce
        have hgw : g < wr.heap.size := by omega
        have hRs : L.length ≤ (rowOf wr g).size := by rw [keep_row hb hg]; exact hgs
        have hlt2 : (k : Int) < (L.length : Int) := by omega
        have hw2 : IntKind.i64.wrap ((k : Int) + 1) = ((k + 1 : Nat) : Int) := by rw [IntWalk.i64_in _ (by omega)]; rfl
        have HQX := Lib.hid (fun w h => l06Place_q (.slice ae m.length ce) 0 m hm20 x w h)
        have HQY := Lib.hid (fun w h => l06Place_q (.slice ae m.length ce) 0 m hm20 y w h)
        have hbe : behB x y m = decide (ixL m y < ixL m x) := rfl
        have HOQ := Lib.hid (fun n => HOK.out.below (belowQ wr n) (Nat.le_refl _))
        clear hok
        by_cases hc : ixL m y < ixL m x
        · have HV := Lib.hid (su_no hm (hbe.trans (decide_eq_true hc)))
          clear hbe hm
          generalize ixL m x = zx at *
          generalize ixL m y = zy at *
          go_wp2
          go_quiet ((go_at_call 73; first | (with_reducible exact Calls.quiet_of_same (HQX.out _ (HOQ.out _))) | (with_reducible exact Calls.quiet_of_same (HQY.out _ (HOQ.out _)))))
          go_wp2
          rw [HV.out]
          refine bodyPost_ret (v := (.tuple #[.bool false, .int .i64 0])) (res_tt rfl rfl rfl) rfl ⟨rfl, by repeat' (first | with_reducible exact Below.refl _ _ | with_reducible assumption | with_reducible refine Below.drew ?_ | with_reducible refine Below.drewN ?_ _ | with_reducible refine Below.alloc ?_ ?_ _ | with_reducible refine Below.setCell ?_ ?_ _ | with_reducible refine Below.setRow ?_ ?_ _ | with_reducible refine below_step (by assumption) ?_ ?_ | (show (_ : Nat) ≤ _; first | omega | (simp <;> omega)))⟩
        · have HN := Lib.hid (show ∀ j m, j < k + 1 → L[j]? = some m → behB x y m = false from fun j m' hj hm' => by
            rcases Nat.lt_succ_iff_lt_or_eq.1 hj with h | rfl
            · exact HNO2.out j m' h hm'
            · rw [hm] at hm'
              obtain rfl := Option.some.inj hm'
              exact hbe.trans (decide_eq_false hc))
          clear hbe hm
          generalize ixL m x = zx at *
          generalize ixL m y = zy at *
          go_wp2
          go_quiet ((go_at_call 73; first | (with_reducible exact Calls.quiet_of_same (HQX.out _ (HOQ.out _))) | (with_reducible exact Calls.quiet_of_same (HQY.out _ (HOQ.out _)))))
          go_wp2
          go_roundw
          case rel => first | exact ⟨k + 1, by omega, by go_num, by repeat' (first | with_reducible exact Below.refl _ _ | with_reducible assumption | with_reducible refine Below.drew ?_ | with_reducible refine Below.drewN ?_ _ | with_reducible refine Below.alloc ?_ ?_ _ | with_reducible refine Below.setCell ?_ ?_ _ | with_reducible refine Below.setRow ?_ ?_ _ | with_reducible refine below_step (by assumption) ?_ ?_ | (show (_ : Nat) ≤ _; first | omega | (simp <;> omega))), HN.out⟩ | ((repeat (with_reducible apply Exists.intro)); refine And.intro ?_ ?_; rotate_left; (focus ((repeat' (with_reducible apply And.intro)) <;> rfl)); exact ⟨k + 1, by omega, by go_num, by repeat' (first | with_reducible exact Below.refl _ _ | with_reducible assumption | with_reducible refine Below.drew ?_ | with_reducible refine Below.drewN ?_ _ | with_reducible refine Below.alloc ?_ ?_ _ | with_reducible refine Below.setCell ?_ ?_ _ | with_reducible refine Below.setRow ?_ ?_ _ | with_reducible refine below_step (by assumption) ?_ ?_ | (show (_ : Nat) ≤ _; first | omega | (simp <;> omega))), HN.out⟩)
          case measure => simp [intOf]; omega
      · have hke : k = L.length := by omega
        subst hke
        have HV := Lib.hid (su_yes (fun j m hj hm => HNO2.out j m hj hm))
        go_wp2
        rw [HV.out]
        refine bodyPost_ret (v := (.tuple #[.bool true, .int .i64 0])) (res_tt rfl rfl rfl) rfl ⟨rfl, by repeat' (first | with_reducible exact Below.refl _ _ | with_reducible assumption | with_reducible refine Below.drew ?_ | with_reducible refine Below.drewN ?_ _ | with_reducible refine Below.alloc ?_ ?_ _ | with_reducible refine Below.setCell ?_ ?_ _ | with_reducible refine Below.setRow ?_ ?_ _ | with_reducible refine below_step (by assumption) ?_ ?_ | (show (_ : Nat) ≤ _; first | omega | (simp <;> omega)))⟩
theorem size_q (a : Option Addr) (n cap : Nat) (w : World) : Calls Tryz.prog 68 #[.slice a n cap] w fun e w' => e = .returned (.int .i64 (n : Int)) ∧ w' = w := by
  go_enter Tryz.func68, Tryz.ntmps68
  go_wp2
  go_ret
  exact ⟨rfl, rfl⟩
theorem within_q (n lo hi : Int) (w : World) : Calls Tryz.prog 57 #[.int .i64 n, .int .i64 lo, .int .i64 hi] w fun e w' => e = .returned (.bool (inB n lo hi)) ∧ w' = w := (within_any n lo hi w).mono fun _ _ ⟨h1, h2⟩ => ⟨h1, h2.symm⟩
set_option maxHeartbeats 4000000 in
theorem sur1_any (qa qb x y : Nat) (ev : Value) (bb : Nat) (m : List Nat) (hm : m.length ≤ 1048576) (w : World) (ha : rowOf w qa = #[.int .i64 (x : Int)]) (hqa : qa < w.heap.size) (hb : rowOf w qb = #[.int .i64 (y : Int)]) (hqb : qb < w.heap.size) (h : OwnK .i64 1 w bb ev m.length (nl m)) :
    Calls Tryz.prog 70 #[ev, .pointer (some ⟨qa, 0, none⟩), .pointer (some ⟨qb, 0, none⟩)] w fun e w' => e = .returned (.bool (behB x y m)) ∧ Below w.heap.size w w' := by
  have HH := Lib.hid h
  obtain ⟨ae, ce, rfl⟩ := h.len
  have HQX := Lib.hid (fun w h => index_q (.slice ae m.length ce) bb m hm x w h)
  have HQY := Lib.hid (fun w h => index_q (.slice ae m.length ce) bb m hm y w h)
  have HBE := Lib.hid (show behB x y m = decide (ixL m y < ixL m x) from rfl)
  have HOQ := Lib.hid (fun n => HH.out.below (belowQ w n) (Nat.le_refl _))
  clear h
  generalize ixL m x = zx at *
  generalize ixL m y = zy at *
  go_enter Tryz.func70, Tryz.ntmps70
  go_wp2
  go_quiet ((go_at_call 71; first | (with_reducible exact Calls.quiet_of_same (HQX.out _ (HOQ.out _))) | (with_reducible exact Calls.quiet_of_same (HQY.out _ (HOQ.out _)))))
  go_wp2
  go_ret
  exact ⟨by rw [HBE.out]; rfl, by repeat' (first | with_reducible exact Below.refl _ _ | with_reducible assumption | with_reducible refine Below.drew ?_ | with_reducible refine Below.drewN ?_ _ | with_reducible refine Below.alloc ?_ ?_ _ | with_reducible refine Below.setCell ?_ ?_ _ | with_reducible refine Below.setRow ?_ ?_ _ | with_reducible refine below_step (by assumption) ?_ ?_ | (show (_ : Nat) ≤ _; first | omega | (simp <;> omega)))⟩
set_option maxHeartbeats 4000000 in
theorem surAt_any (w0 : World) (L : List (List Nat)) (hL : L.length ≤ 1048576) (n : Nat) (hn : n ≤ 1048576) (hm : ∀ m ∈ L, m.length = n) (qa qb x y : Nat) (v : Value) (w : World) (ha : rowOf w qa = #[.int .i64 (x : Int)]) (hqa : qa < w.heap.size) (hb : rowOf w qb = #[.int .i64 (y : Int)]) (hqb : qb < w.heap.size) (h : AllW w0 w 0 v L) :
    Calls Tryz.prog 115 #[v, .func (.func 70) #[] #[.pointer (some ⟨qa, 0, none⟩), .pointer (some ⟨qb, 0, none⟩)]] w fun e w' => ∃ r : Int, e = .returned (.int .i64 r) ∧ decide (0 ≤ r) = L.any (behB x y) ∧ -1 ≤ r ∧ r ≤ L.length ∧ Below w.heap.size w w' := by
  have HH := Lib.hid h
  obtain ⟨a, cap, rfl⟩ := h.len
  have HM := Lib.hid hm
  clear h hm
  go_enter Tryz.func115, Tryz.ntmps115
  go_wp2
  go_loopw [8] (fun i wr => ∃ k : Nat, k ≤ L.length ∧ i = .int .i64 k ∧ Below w.heap.size w wr ∧ ∀ j m, j < k → L[j]? = some m → behB x y m = false) (fun i wr => L.length + 1 - (intOf i).toNat)
  case atStart => exact ⟨0, by omega, rfl, by repeat' (first | with_reducible exact Below.refl _ _ | with_reducible assumption | with_reducible refine Below.drew ?_ | with_reducible refine Below.drewN ?_ _ | with_reducible refine Below.alloc ?_ ?_ _ | with_reducible refine Below.setCell ?_ ?_ _ | with_reducible refine Below.setRow ?_ ?_ _ | with_reducible refine below_step (by assumption) ?_ ?_ | (show (_ : Nat) ≤ _; first | omega | (simp <;> omega))), fun j m h1 => by omega⟩
  case round =>
    obtain ⟨k, hk1, rfl, hbw, hin⟩ := hrel
    have hsz := hbw.size
    have HIN := Lib.hid hin
    clear hin
    by_cases hlt : k < L.length
    · obtain ⟨g, cr, hv, hg, hgs, hcs⟩ := HH.out.at (by omega)
      simp only [Value.slice.injEq] at hv
      obtain ⟨rfl, -, rfl⟩ := hv
      obtain ⟨m, hm⟩ : ∃ m, L[k]? = some m := ⟨_, List.getElem?_eq_getElem hlt⟩
      obtain ⟨ev, hce, hok⟩ := hcs k m hm
      have hm20 : m.length ≤ 1048576 := by have := HM.out m (List.mem_of_getElem? hm); omega
      have HOK := Lib.hid (hok.below hbw (Nat.le_refl _))
      obtain ⟨ae, ce, rfl⟩ := hok.len
      rw [← keep_row hbw hg] at hce
      have hgw : g < wr.heap.size := by omega
      have hlt2 : (k : Int) < (L.length : Int) := by omega
      have hw1 : IntKind.i64.wrap ((k : Int) + 1) = ((k + 1 : Nat) : Int) := by rw [IntWalk.i64_in _ (by omega)]; rfl
      have hra := (keep_row hbw hqa).trans ha
      have hrb := (keep_row hbw hqb).trans hb
      have hqa2 : qa < wr.heap.size := by omega
      have hqb2 : qb < wr.heap.size := by omega
      have hOS := fun w2 h1 h2 h3 h4 h5 => sur1_any qa qb x y (.slice ae m.length ce) 0 m hm20 w2 h1 h2 h3 h4 h5
      clear hok hcs
      rcases Bool.eq_false_or_eq_true (behB x y m) with hs | hs
      · have HN := Lib.hid (show L.any (behB x y) = true from List.any_eq_true.2 ⟨m, List.mem_of_getElem? hm, hs⟩)
        rw [hs] at hOS
        have HOS := Lib.hid hOS
        clear hOS hs hm
        go_wp2_with ((go_at_call 70; refine (HOS.out _ (by (go_simp <;> (intros; omega))) (by first | omega | (simp <;> omega)) (by (go_simp <;> (intros; omega))) (by first | omega | (simp <;> omega)) (HOK.out.below (by repeat' (first | with_reducible exact Below.refl _ _ | with_reducible assumption | with_reducible refine Below.drew ?_ | with_reducible refine Below.drewN ?_ _ | with_reducible refine Below.alloc ?_ ?_ _ | with_reducible refine Below.setCell ?_ ?_ _ | with_reducible refine Below.setRow ?_ ?_ _ | with_reducible refine below_step (by assumption) ?_ ?_ | (show (_ : Nat) ≤ _; first | omega | (simp <;> omega)))) (Nat.le_refl _))).mono ?_; rintro e w1 ⟨rfl, hb1⟩; have r1 := keep_rowA hb1; have f1 := keep_frA hb1; have s1 := hb1.size; (try simp only [World.size_alloc, World.size_setCell, setRow_size, World.size_drew, size_drewNm] at r1 f1 s1)))
        go_ret
        exact ⟨k, rfl, by rw [HN.out]; exact decide_eq_true (by omega), by omega, by omega, by repeat' (first | with_reducible exact Below.refl _ _ | with_reducible assumption | with_reducible refine Below.drew ?_ | with_reducible refine Below.drewN ?_ _ | with_reducible refine Below.alloc ?_ ?_ _ | with_reducible refine Below.setCell ?_ ?_ _ | with_reducible refine Below.setRow ?_ ?_ _ | with_reducible refine below_step (by assumption) ?_ ?_ | (show (_ : Nat) ≤ _; first | omega | (simp <;> omega)))⟩
      · have HN := Lib.hid (show ∀ j m, j < k + 1 → L[j]? = some m → behB x y m = false from fun j m' hj hm' => by
          rcases Nat.lt_succ_iff_lt_or_eq.1 hj with h | rfl
          · exact HIN.out j m' h hm'
          · rw [hm] at hm'
            obtain rfl := Option.some.inj hm'
            exact hs)
        rw [hs] at hOS
        have HOS := Lib.hid hOS
        clear hOS hs hm
        go_wp2_with ((go_at_call 70; refine (HOS.out _ (by (go_simp <;> (intros; omega))) (by first | omega | (simp <;> omega)) (by (go_simp <;> (intros; omega))) (by first | omega | (simp <;> omega)) (HOK.out.below (by repeat' (first | with_reducible exact Below.refl _ _ | with_reducible assumption | with_reducible refine Below.drew ?_ | with_reducible refine Below.drewN ?_ _ | with_reducible refine Below.alloc ?_ ?_ _ | with_reducible refine Below.setCell ?_ ?_ _ | with_reducible refine Below.setRow ?_ ?_ _ | with_reducible refine below_step (by assumption) ?_ ?_ | (show (_ : Nat) ≤ _; first | omega | (simp <;> omega)))) (Nat.le_refl _))).mono ?_; rintro e w1 ⟨rfl, hb1⟩; have r1 := keep_rowA hb1; have f1 := keep_frA hb1; have s1 := hb1.size; (try simp only [World.size_alloc, World.size_setCell, setRow_size, World.size_drew, size_drewNm] at r1 f1 s1)))
        go_roundw
        case rel => first | exact ⟨k + 1, by omega, by go_num, by repeat' (first | with_reducible exact Below.refl _ _ | with_reducible assumption | with_reducible refine Below.drew ?_ | with_reducible refine Below.drewN ?_ _ | with_reducible refine Below.alloc ?_ ?_ _ | with_reducible refine Below.setCell ?_ ?_ _ | with_reducible refine Below.setRow ?_ ?_ _ | with_reducible refine below_step (by assumption) ?_ ?_ | (show (_ : Nat) ≤ _; first | omega | (simp <;> omega))), HN.out⟩ | ((repeat (with_reducible apply Exists.intro)); refine And.intro ?_ ?_; rotate_left; (focus ((repeat' (with_reducible apply And.intro)) <;> rfl)); exact ⟨k + 1, by omega, by go_num, by repeat' (first | with_reducible exact Below.refl _ _ | with_reducible assumption | with_reducible refine Below.drew ?_ | with_reducible refine Below.drewN ?_ _ | with_reducible refine Below.alloc ?_ ?_ _ | with_reducible refine Below.setCell ?_ ?_ _ | with_reducible refine Below.setRow ?_ ?_ _ | with_reducible refine below_step (by assumption) ?_ ?_ | (show (_ : Nat) ≤ _; first | omega | (simp <;> omega))), HN.out⟩)
        case measure => simp [intOf] <;> omega
    · have hke : k = L.length := by omega
      subst hke
      have HV := Lib.hid (show L.any (behB x y) = false from by
        rw [List.any_eq_false]
        intro m hm
        obtain ⟨j, hj, rfl⟩ := List.getElem_of_mem hm
        rw [HIN.out j _ hj (List.getElem?_eq_getElem hj)]; decide)
      go_wp2
      go_ret
      exact ⟨-1, rfl, by rw [HV.out]; rfl, by omega, by omega, by repeat' (first | with_reducible exact Below.refl _ _ | with_reducible assumption | with_reducible refine Below.drew ?_ | with_reducible refine Below.drewN ?_ _ | with_reducible refine Below.alloc ?_ ?_ _ | with_reducible refine Below.setCell ?_ ?_ _ | with_reducible refine Below.setRow ?_ ?_ _ | with_reducible refine below_step (by assumption) ?_ ?_ | (show (_ : Nat) ≤ _; first | omega | (simp <;> omega)))⟩
theorem surC_any (w0 : World) (L : List (List Nat)) (hL : L.length ≤ 1048576) (n : Nat) (hn : n ≤ 1048576) (hm : ∀ m ∈ L, m.length = n) (qa qb x y : Nat) (v : Value) (w : World) (ha : rowOf w qa = #[.int .i64 (x : Int)]) (hqa : qa < w.heap.size) (hb : rowOf w qb = #[.int .i64 (y : Int)]) (hqb : qb < w.heap.size) (h : AllW w0 w 0 v L) :
    Calls Tryz.prog 69 #[v, .func (.func 70) #[] #[.pointer (some ⟨qa, 0, none⟩), .pointer (some ⟨qb, 0, none⟩)]] w fun e w' => e = .returned (.bool (L.any (behB x y))) ∧ Below w.heap.size w w' := by
  have HX := Lib.hid (surAt_any w0 L hL n hn hm qa qb x y v w ha hqa hb hqb h)
  generalize L.any (behB x y) = z at *
  clear h
  go_enter Tryz.func69, Tryz.ntmps69
  go_wp2_with (go_at_call 115; refine HX.out.mono ?_; rintro e w1 ⟨k, rfl, hk, hk1, hk2, hb1⟩)
  go_ret
  exact ⟨by rw [← hk]; rfl, by repeat' (first | with_reducible exact Below.refl _ _ | with_reducible assumption | with_reducible refine Below.drew ?_ | with_reducible refine Below.drewN ?_ _ | with_reducible refine Below.alloc ?_ ?_ _ | with_reducible refine Below.setCell ?_ ?_ _ | with_reducible refine Below.setRow ?_ ?_ _ | with_reducible refine below_step (by assumption) ?_ ?_ | (show (_ : Nat) ≤ _; first | omega | (simp <;> omega)))⟩
set_option maxHeartbeats 8000000 in
theorem iSurelyBefore_any (c : Nat → Int) (hfc : FitSheet c) (v : Value) (n q : Nat) (F : Nat → Mk) (hn : n ≤ 1048576) (hF : ∀ k, k < n → MkIn (F k) ∧ (F k).n ≤ 1048576) (pv : Value) (bp : Nat) (P : List (List UInt8)) (hP : P.length ≤ 1048576) (a b : Int) (w : World) (h : OwnM w q v n F) (hpv : OwnT w bp pv P) (hmx : MxW w) :
    Calls Tryz.prog 22 #[.agg (kc sk 266 c), v, pv, .int .i64 a, .int .i64 b] w fun e w' => e = .returned (.tuple #[.bool (surB c n F P a b), .int .i64 (surE c n F P a b)]) ∧ Below w.heap.size w w' := by
  have HX0 := fun w h1 => iValidMarks_any c hfc v n q F hn hF w h1
  have HMX := Lib.hid hmx
  have HH := Lib.hid h
  have HPV := Lib.hid hpv
  have hw1 : IntKind.i64.wrap ((n : Int) - 1) = (n : Int) - 1 := IntWalk.i64_in _ (by omega)
  obtain ⟨am, cm, rfl⟩ := h.1.len
  rcases Bool.eq_false_or_eq_true (vmB c n F) with hv | hv
  case inr =>
    rw [hv] at HX0
    rw [(sur_bad P a b hv).1, (sur_bad P a b hv).2]
    have HX := Lib.hid HX0
    clear h hpv hF hv HX0
    go_enter Tryz.func22, Tryz.ntmps22
    go_wp2_with (go_at_call 18; refine (HX.out _ (HH.out.below (by repeat' (first | with_reducible exact Below.refl _ _ | with_reducible assumption | with_reducible refine Below.drew ?_ | with_reducible refine Below.drewN ?_ _ | with_reducible refine Below.alloc ?_ ?_ _ | with_reducible refine Below.setCell ?_ ?_ _ | with_reducible refine Below.setRow ?_ ?_ _ | with_reducible refine below_step (by assumption) ?_ ?_ | (show (_ : Nat) ≤ _; first | omega | (simp <;> omega)))) (Nat.le_refl _))).mono ?_; rintro e w1 ⟨rfl, hb1⟩; have r1 := keep_rowA hb1; have f1 := keep_frA hb1; have s1 := hb1.size; (try simp only [World.size_alloc, World.size_setCell, setRow_size, World.size_drew, size_drewNm] at r1 f1 s1))
    refine bodyPost_ret (v := (.tuple #[.bool false, .int .i64 1])) (res_tt rfl rfl rfl) rfl ⟨rfl, by repeat' (first | with_reducible exact Below.refl _ _ | with_reducible assumption | with_reducible refine Below.drew ?_ | with_reducible refine Below.drewN ?_ _ | with_reducible refine Below.alloc ?_ ?_ _ | with_reducible refine Below.setCell ?_ ?_ _ | with_reducible refine Below.setRow ?_ ?_ _ | with_reducible refine below_step (by assumption) ?_ ?_ | (show (_ : Nat) ≤ _; first | omega | (simp <;> omega)))⟩
  obtain ⟨hok, h6, hlay⟩ := vm_lay hv
  rw [hv] at HX0
  have HX := Lib.hid HX0
  have HRN := Lib.hid (fun hr => sur_rng (n := n) (F := F) P (a := a) (b := b) hv hr)
  have HNO := Lib.hid (fun hr hl => sur_none (n := n) (F := F) (P := P) (a := a) (b := b) hv hr hl)
  have HSO := Lib.hid (fun hr hl => sur_some (n := n) (F := F) (P := P) (a := a) (b := b) hv hr hl)
  have HA0 := fun w => within_q a 0 ((n : Int) - 1) w
  have HB0 := fun w => within_q b 0 ((n : Int) - 1) w
  have HL := Lib.hid (fun p w h1 h2 h3 h4 h5 => iAll_any p c hfc hok (.slice am n cm) n q F h6 hlay pv bp P hP 0 w (Nat.zero_le _) h1 h2 h3 h4 h5)
  have HSZ := Lib.hid (fun w => size_q am n cm w)
  have HLN := Lib.hid (fun (m : List Nat) (h : m ∈ allO c n F P) => (allO_len h).1)
  have HFW := Lib.hid (allO_few (c := c) (F := F) (P := P) h6)
  have HIN := Lib.hid (fun (x : Int) (h : inB x 0 ((n : Int) - 1) = true) => inB_true.1 h)
  clear h hpv hF hv hok hlay HX0
  have hrE : rngB n a b = (inB a 0 ((n : Int) - 1) && (inB b 0 ((n : Int) - 1) && !(a == b))) := rfl
  rcases Bool.eq_false_or_eq_true (inB a 0 ((n : Int) - 1)) with hA | hA
  case inr =>
    rw [hA] at HA0
    rw [hA] at hrE
    rw [(HRN.out hrE).1, (HRN.out hrE).2]
    have HA := Lib.hid HA0
    clear HA0 HB0 hA hrE
    go_enter Tryz.func22, Tryz.ntmps22
    go_wp2_with (go_at_call 18; refine (HX.out _ (HH.out.below (by repeat' (first | with_reducible exact Below.refl _ _ | with_reducible assumption | with_reducible refine Below.drew ?_ | with_reducible refine Below.drewN ?_ _ | with_reducible refine Below.alloc ?_ ?_ _ | with_reducible refine Below.setCell ?_ ?_ _ | with_reducible refine Below.setRow ?_ ?_ _ | with_reducible refine below_step (by assumption) ?_ ?_ | (show (_ : Nat) ≤ _; first | omega | (simp <;> omega)))) (Nat.le_refl _))).mono ?_; rintro e w1 ⟨rfl, hb1⟩; have r1 := keep_rowA hb1; have f1 := keep_frA hb1; have s1 := hb1.size; (try simp only [World.size_alloc, World.size_setCell, setRow_size, World.size_drew, size_drewNm] at r1 f1 s1))
    go_quiet (first | (go_at_call 68; with_reducible exact Calls.quiet_of_same (HSZ.out _)) | (go_at_call 57; first | (with_reducible exact Calls.quiet_of_same (HA.out _)) | (with_reducible exact Calls.quiet_of_same (HB.out _))))
    go_wp2
    refine bodyPost_ret (v := (.tuple #[.bool false, .int .i64 2])) (res_tt rfl rfl rfl) rfl ⟨rfl, by repeat' (first | with_reducible exact Below.refl _ _ | with_reducible assumption | with_reducible refine Below.drew ?_ | with_reducible refine Below.drewN ?_ _ | with_reducible refine Below.alloc ?_ ?_ _ | with_reducible refine Below.setCell ?_ ?_ _ | with_reducible refine Below.setRow ?_ ?_ _ | with_reducible refine below_step (by assumption) ?_ ?_ | (show (_ : Nat) ≤ _; first | omega | (simp <;> omega)))⟩
  rw [hA] at HA0
  have HA := Lib.hid HA0
  rw [hA, Bool.true_and] at hrE
  have hA' := HIN.out a hA
  clear HA0 hA
  rcases Bool.eq_false_or_eq_true (inB b 0 ((n : Int) - 1)) with hB | hB
  case inr =>
    rw [hB] at HB0
    rw [hB] at hrE
    rw [(HRN.out hrE).1, (HRN.out hrE).2]
    have HB := Lib.hid HB0
    clear HB0 hB hrE
    go_enter Tryz.func22, Tryz.ntmps22
    go_wp2_with (go_at_call 18; refine (HX.out _ (HH.out.below (by repeat' (first | with_reducible exact Below.refl _ _ | with_reducible assumption | with_reducible refine Below.drew ?_ | with_reducible refine Below.drewN ?_ _ | with_reducible refine Below.alloc ?_ ?_ _ | with_reducible refine Below.setCell ?_ ?_ _ | with_reducible refine Below.setRow ?_ ?_ _ | with_reducible refine below_step (by assumption) ?_ ?_ | (show (_ : Nat) ≤ _; first | omega | (simp <;> omega)))) (Nat.le_refl _))).mono ?_; rintro e w1 ⟨rfl, hb1⟩; have r1 := keep_rowA hb1; have f1 := keep_frA hb1; have s1 := hb1.size; (try simp only [World.size_alloc, World.size_setCell, setRow_size, World.size_drew, size_drewNm] at r1 f1 s1))
    go_quiet (first | (go_at_call 68; with_reducible exact Calls.quiet_of_same (HSZ.out _)) | (go_at_call 57; first | (with_reducible exact Calls.quiet_of_same (HA.out _)) | (with_reducible exact Calls.quiet_of_same (HB.out _))))
    go_wp2
    refine bodyPost_ret (v := (.tuple #[.bool false, .int .i64 2])) (res_tt rfl rfl rfl) rfl ⟨rfl, by repeat' (first | with_reducible exact Below.refl _ _ | with_reducible assumption | with_reducible refine Below.drew ?_ | with_reducible refine Below.drewN ?_ _ | with_reducible refine Below.alloc ?_ ?_ _ | with_reducible refine Below.setCell ?_ ?_ _ | with_reducible refine Below.setRow ?_ ?_ _ | with_reducible refine below_step (by assumption) ?_ ?_ | (show (_ : Nat) ≤ _; first | omega | (simp <;> omega)))⟩
  rw [hB] at HB0
  have HB := Lib.hid HB0
  rw [hB, Bool.true_and] at hrE
  have hB' := HIN.out b hB
  clear HB0 hB
  by_cases hab : a = b
  · subst hab
    have hrE2 : rngB n a a = false := by rw [hrE]; simp
    rw [(HRN.out hrE2).1, (HRN.out hrE2).2]
    clear hrE hrE2
    go_enter Tryz.func22, Tryz.ntmps22
    go_wp2_with (go_at_call 18; refine (HX.out _ (HH.out.below (by repeat' (first | with_reducible exact Below.refl _ _ | with_reducible assumption | with_reducible refine Below.drew ?_ | with_reducible refine Below.drewN ?_ _ | with_reducible refine Below.alloc ?_ ?_ _ | with_reducible refine Below.setCell ?_ ?_ _ | with_reducible refine Below.setRow ?_ ?_ _ | with_reducible refine below_step (by assumption) ?_ ?_ | (show (_ : Nat) ≤ _; first | omega | (simp <;> omega)))) (Nat.le_refl _))).mono ?_; rintro e w1 ⟨rfl, hb1⟩; have r1 := keep_rowA hb1; have f1 := keep_frA hb1; have s1 := hb1.size; (try simp only [World.size_alloc, World.size_setCell, setRow_size, World.size_drew, size_drewNm] at r1 f1 s1))
    go_quiet (first | (go_at_call 68; with_reducible exact Calls.quiet_of_same (HSZ.out _)) | (go_at_call 57; first | (with_reducible exact Calls.quiet_of_same (HA.out _)) | (with_reducible exact Calls.quiet_of_same (HB.out _))))
    go_wp2
    refine bodyPost_ret (v := (.tuple #[.bool false, .int .i64 2])) (res_tt rfl rfl rfl) rfl ⟨rfl, by repeat' (first | with_reducible exact Below.refl _ _ | with_reducible assumption | with_reducible refine Below.drew ?_ | with_reducible refine Below.drewN ?_ _ | with_reducible refine Below.alloc ?_ ?_ _ | with_reducible refine Below.setCell ?_ ?_ _ | with_reducible refine Below.setRow ?_ ?_ _ | with_reducible refine below_step (by assumption) ?_ ?_ | (show (_ : Nat) ≤ _; first | omega | (simp <;> omega)))⟩
  have hab1 : (a == b) = false := by rw [beq_eq_false_iff_ne]; exact hab
  have hrE2 : rngB n a b = true := by rw [hrE, hab1]; rfl
  clear hrE
  obtain ⟨x, rfl⟩ : ∃ x : Nat, a = x := ⟨a.toNat, by omega⟩
  obtain ⟨y, rfl⟩ : ∃ y : Nat, b = y := ⟨b.toNat, by omega⟩
  have hxy : ¬ x = y := fun e => hab (by rw [e])
  rcases hLL : allO c n F P with _ | ⟨l0, L'⟩
  · rw [(HNO.out hrE2 hLL).1, (HNO.out hrE2 hLL).2]
    rw [hLL] at HL
    clear hLL hrE2
    go_enter Tryz.func22, Tryz.ntmps22
    go_wp2_with (go_at_call 18; refine (HX.out _ (HH.out.below (by repeat' (first | with_reducible exact Below.refl _ _ | with_reducible assumption | with_reducible refine Below.drew ?_ | with_reducible refine Below.drewN ?_ _ | with_reducible refine Below.alloc ?_ ?_ _ | with_reducible refine Below.setCell ?_ ?_ _ | with_reducible refine Below.setRow ?_ ?_ _ | with_reducible refine below_step (by assumption) ?_ ?_ | (show (_ : Nat) ≤ _; first | omega | (simp <;> omega)))) (Nat.le_refl _))).mono ?_; rintro e w1 ⟨rfl, hb1⟩; have r1 := keep_rowA hb1; have f1 := keep_frA hb1; have s1 := hb1.size; (try simp only [World.size_alloc, World.size_setCell, setRow_size, World.size_drew, size_drewNm] at r1 f1 s1))
    go_quiet (first | (go_at_call 68; with_reducible exact Calls.quiet_of_same (HSZ.out _)) | (go_at_call 57; first | (with_reducible exact Calls.quiet_of_same (HA.out _)) | (with_reducible exact Calls.quiet_of_same (HB.out _))))
    go_wp2_with (go_at_call 47; refine (HL.out w.heap.size _ (by (go_simp <;> (intros; omega))) (by first | omega | (simp <;> omega)) (HH.out.below (by repeat' (first | with_reducible exact Below.refl _ _ | with_reducible assumption | with_reducible refine Below.drew ?_ | with_reducible refine Below.drewN ?_ _ | with_reducible refine Below.alloc ?_ ?_ _ | with_reducible refine Below.setCell ?_ ?_ _ | with_reducible refine Below.setRow ?_ ?_ _ | with_reducible refine below_step (by assumption) ?_ ?_ | (show (_ : Nat) ≤ _; first | omega | (simp <;> omega)))) (Nat.le_refl _)) (HPV.out.below (by repeat' (first | with_reducible exact Below.refl _ _ | with_reducible assumption | with_reducible refine Below.drew ?_ | with_reducible refine Below.drewN ?_ _ | with_reducible refine Below.alloc ?_ ?_ _ | with_reducible refine Below.setCell ?_ ?_ _ | with_reducible refine Below.setRow ?_ ?_ _ | with_reducible refine below_step (by assumption) ?_ ?_ | (show (_ : Nat) ≤ _; first | omega | (simp <;> omega)))) (Nat.le_refl _)) (HMX.out.below (by repeat' (first | with_reducible exact Below.refl _ _ | with_reducible assumption | with_reducible refine Below.drew ?_ | with_reducible refine Below.drewN ?_ _ | with_reducible refine Below.alloc ?_ ?_ _ | with_reducible refine Below.setCell ?_ ?_ _ | with_reducible refine Below.setRow ?_ ?_ _ | with_reducible refine below_step (by assumption) ?_ ?_ | (show (_ : Nat) ≤ _; first | omega | (simp <;> omega)))))).mono ?_; rintro e w3 ⟨v3, rfl, hall, hb3⟩; obtain ⟨ar, cr, rfl⟩ := hall.len; clear hall; have r_hb3 := keep_rowA hb3; have f_hb3 := keep_frA hb3; have s_hb3 := hb3.size; (try simp only [World.size_alloc, World.size_setCell, setRow_size, World.size_drew, size_drewNm] at r_hb3 f_hb3 s_hb3))
    refine bodyPost_ret (v := (.tuple #[.bool false, .int .i64 6])) (res_tt rfl rfl rfl) rfl ⟨rfl, by repeat' (first | with_reducible exact Below.refl _ _ | with_reducible assumption | with_reducible refine Below.drew ?_ | with_reducible refine Below.drewN ?_ _ | with_reducible refine Below.alloc ?_ ?_ _ | with_reducible refine Below.setCell ?_ ?_ _ | with_reducible refine Below.setRow ?_ ?_ _ | with_reducible refine below_step (by assumption) ?_ ?_ | (show (_ : Nat) ≤ _; first | omega | (simp <;> omega)))⟩
  · have hne : (allO c n F P).isEmpty = false := by rw [hLL]; rfl
    rw [(HSO.out hrE2 hne).1, (HSO.out hrE2 hne).2]
    have hL0 : 0 < (allO c n F P).length := by rw [hLL]; simp
    have hLF := HFW.out
    rw [Int.toNat_natCast, Int.toNat_natCast]
    clear hLL hne hrE2
    generalize allO c n F P = L at *
    have hl0 : ((L.length : Int) == 0) = false := by rw [beq_eq_false_iff_ne]; omega
    have hl1 : ¬ (L.length : Int) = 0 := by omega
    go_enter Tryz.func22, Tryz.ntmps22
    go_wp2_with (go_at_call 18; refine (HX.out _ (HH.out.below (by repeat' (first | with_reducible exact Below.refl _ _ | with_reducible assumption | with_reducible refine Below.drew ?_ | with_reducible refine Below.drewN ?_ _ | with_reducible refine Below.alloc ?_ ?_ _ | with_reducible refine Below.setCell ?_ ?_ _ | with_reducible refine Below.setRow ?_ ?_ _ | with_reducible refine below_step (by assumption) ?_ ?_ | (show (_ : Nat) ≤ _; first | omega | (simp <;> omega)))) (Nat.le_refl _))).mono ?_; rintro e w1 ⟨rfl, hb1⟩; have r1 := keep_rowA hb1; have f1 := keep_frA hb1; have s1 := hb1.size; (try simp only [World.size_alloc, World.size_setCell, setRow_size, World.size_drew, size_drewNm] at r1 f1 s1))
    go_quiet (first | (go_at_call 68; with_reducible exact Calls.quiet_of_same (HSZ.out _)) | (go_at_call 57; first | (with_reducible exact Calls.quiet_of_same (HA.out _)) | (with_reducible exact Calls.quiet_of_same (HB.out _))))
    go_wp2_with (go_at_call 47; refine (HL.out w.heap.size _ (by (go_simp <;> (intros; omega))) (by first | omega | (simp <;> omega)) (HH.out.below (by repeat' (first | with_reducible exact Below.refl _ _ | with_reducible assumption | with_reducible refine Below.drew ?_ | with_reducible refine Below.drewN ?_ _ | with_reducible refine Below.alloc ?_ ?_ _ | with_reducible refine Below.setCell ?_ ?_ _ | with_reducible refine Below.setRow ?_ ?_ _ | with_reducible refine below_step (by assumption) ?_ ?_ | (show (_ : Nat) ≤ _; first | omega | (simp <;> omega)))) (Nat.le_refl _)) (HPV.out.below (by repeat' (first | with_reducible exact Below.refl _ _ | with_reducible assumption | with_reducible refine Below.drew ?_ | with_reducible refine Below.drewN ?_ _ | with_reducible refine Below.alloc ?_ ?_ _ | with_reducible refine Below.setCell ?_ ?_ _ | with_reducible refine Below.setRow ?_ ?_ _ | with_reducible refine below_step (by assumption) ?_ ?_ | (show (_ : Nat) ≤ _; first | omega | (simp <;> omega)))) (Nat.le_refl _)) (HMX.out.below (by repeat' (first | with_reducible exact Below.refl _ _ | with_reducible assumption | with_reducible refine Below.drew ?_ | with_reducible refine Below.drewN ?_ _ | with_reducible refine Below.alloc ?_ ?_ _ | with_reducible refine Below.setCell ?_ ?_ _ | with_reducible refine Below.setRow ?_ ?_ _ | with_reducible refine below_step (by assumption) ?_ ?_ | (show (_ : Nat) ≤ _; first | omega | (simp <;> omega)))))).mono ?_; rintro e w3 ⟨v3, rfl, hall, hb3⟩; obtain ⟨ar, cr, rfl⟩ := hall.len; have HALL := Lib.hid hall; clear hall; have r_hb3 := keep_rowA hb3; have f_hb3 := keep_frA hb3; have s_hb3 := hb3.size; (try simp only [World.size_alloc, World.size_setCell, setRow_size, World.size_drew, size_drewNm] at r_hb3 f_hb3 s_hb3))
    have HSC := Lib.hid (fun w0 v4 w4 h1 h2 h3 h4 h5 => surC_any w0 L (by omega) n (by omega) (fun m h => HLN.out m h) (w.heap.size + 1) (w.heap.size + 2) x y v4 w4 h1 h2 h3 h4 h5)
    have HSU := Lib.hid (show suB L x y = !(L.any (behB x y)) from rfl)
    generalize L.any (behB x y) = z at *
    go_wp2_with (go_at_call 69; refine (HSC.out _ _ _ (by (go_simp <;> (intros; omega))) (by first | omega | (simp <;> omega)) (by (go_simp <;> (intros; omega))) (by first | omega | (simp <;> omega)) HALL.out).mono ?_; rintro e w4 ⟨rfl, hb4⟩; have r_hb4 := keep_rowA hb4; have f_hb4 := keep_frA hb4; have s_hb4 := hb4.size; (try simp only [World.size_alloc, World.size_setCell, setRow_size, World.size_drew, size_drewNm] at r_hb4 f_hb4 s_hb4))
    rw [HSU.out]
    refine bodyPost_ret (v := (.tuple #[.bool (!z), .int .i64 0])) (res_tt rfl rfl rfl) rfl ⟨rfl, by repeat' (first | with_reducible exact Below.refl _ _ | with_reducible assumption | with_reducible refine Below.drew ?_ | with_reducible refine Below.drewN ?_ _ | with_reducible refine Below.alloc ?_ ?_ _ | with_reducible refine Below.setCell ?_ ?_ _ | with_reducible refine Below.setRow ?_ ?_ _ | with_reducible refine below_step (by assumption) ?_ ?_ | (show (_ : Nat) ≤ _; first | omega | (simp <;> omega)))⟩
end Go.Proofs.YtejnejplofddnaaGreatDoor
/- The mark without which the others make a picture: both sides. Written by gen_fors.py. -/
namespace Go.Proofs.YtejnejplofddnaaGreatDoor
open Go.RowKit
set_option linter.unusedVariables false
set_option linter.unusedSimpArgs false
set_option maxRecDepth 100000
theorem sk_lay {F : Nat → Mk} {n i : Nat} (h : ∀ k, k < n → MkLay (F k)) (hi : i < n) : ∀ k, k < n - 1 → MkLay (skF F i k) := fun k hk => by
  unfold skF
  split
  · exact h k (by omega)
  · exact h (k + 1) (by omega)
theorem own_sk {w w' : World} {b base n i : Nat} {v v' : Value} {F : Nat → Mk} (h : OwnM w b v n F) (hi : i < n) (hb : Below w.heap.size w w') (hv : OwnV 2 w' base v' (n - 1) (mkV (skF F i))) : OwnM w' 0 v' (n - 1) (skF F i) := by
  refine ⟨hv.down (Nat.zero_le _), fun k hk => ?_⟩
  unfold skF
  split
  · exact ((h.2 k (by omega)).below hb (Nat.le_refl _)).down (Nat.zero_le _)
  · exact ((h.2 (k + 1) (by omega)).below hb (Nat.le_refl _)).down (Nat.zero_le _)
/-- The first mark without which the others make the picture. -/
def fgI (c : Nat → Int) (n : Nat) (F : Nat → Mk) (P : List (List UInt8)) : Option Nat := (List.range n).find? fun i => !(allO c (n - 1) (skF F i) P).isEmpty
theorem fg_hit {c : Nat → Int} {n k : Nat} {F : Nat → Mk} {P : List (List UInt8)} (hk : k < n) (hno : ∀ j, j < k → allO c (n - 1) (skF F j) P = []) (h : allO c (n - 1) (skF F k) P ≠ []) : fgI c n F P = some k := by
  unfold fgI
  rw [List.find?_range_eq_some]
  refine ⟨?_, List.mem_range.2 hk, fun j hj => ?_⟩
  · cases h2 : allO c (n - 1) (skF F k) P with
    | nil => exact absurd h2 h
    | cons a b => rfl
  · rw [hno j hj]; rfl
theorem fg_miss {c : Nat → Int} {n : Nat} {F : Nat → Mk} {P : List (List UInt8)} (hno : ∀ j, j < n → allO c (n - 1) (skF F j) P = []) : fgI c n F P = none := by
  unfold fgI
  rw [List.find?_range_eq_none]
  intro j hj
  rw [hno j hj]; rfl
noncomputable def fgN (c : Nat → Int) (n : Nat) (F : Nat → Mk) (P : List (List UInt8)) : Int := if vmB c n F = true ∧ allO c n F P = [] then (match fgI c n F P with | some i => (i : Int) | none => 0) else 0
noncomputable def fgE (c : Nat → Int) (n : Nat) (F : Nat → Mk) (P : List (List UInt8)) : Int := if vmB c n F = true then (if allO c n F P = [] then (match fgI c n F P with | some _ => 0 | none => 6) else 4) else 1
theorem fg_bad {c : Nat → Int} {n : Nat} {F : Nat → Mk} (P : List (List UInt8)) (h : vmB c n F = false) : fgN c n F P = 0 ∧ fgE c n F P = 1 := by
  unfold fgN fgE
  rw [h, if_neg (fun g => by cases g.1), if_neg (by decide)]
  exact ⟨rfl, rfl⟩
theorem fg_state {c : Nat → Int} {n : Nat} {F : Nat → Mk} {P : List (List UInt8)} (h : vmB c n F = true) (hl : allO c n F P ≠ []) : fgN c n F P = 0 ∧ fgE c n F P = 4 := by
  unfold fgN fgE
  rw [h, if_neg (fun g => hl g.2), if_pos rfl, if_neg hl]
  exact ⟨rfl, rfl⟩
theorem fg_some {c : Nat → Int} {n k : Nat} {F : Nat → Mk} {P : List (List UInt8)} (h : vmB c n F = true) (hl : allO c n F P = []) (hi : fgI c n F P = some k) : fgN c n F P = (k : Int) ∧ fgE c n F P = 0 := by
  unfold fgN fgE
  rw [h, hl, hi, if_pos ⟨rfl, rfl⟩, if_pos rfl, if_pos rfl]
  exact ⟨rfl, rfl⟩
theorem fg_none {c : Nat → Int} {n : Nat} {F : Nat → Mk} {P : List (List UInt8)} (h : vmB c n F = true) (hl : allO c n F P = []) (hi : fgI c n F P = none) : fgN c n F P = 0 ∧ fgE c n F P = 6 := by
  unfold fgN fgE
  rw [h, hl, hi, if_pos ⟨rfl, rfl⟩, if_pos rfl, if_pos rfl]
  exact ⟨rfl, rfl⟩
theorem owns_posW {w : World} {base n s : Nat} {e : TypeId} {v : Value} {xs : List Value} (h : w.ownsRow base e s v n xs) (h0 : 0 < n) : ∃ g cap, v = .slice (some ⟨g, 0, none⟩) n cap ∧ base ≤ g ∧ g < w.heap.size := by
  obtain ⟨hl, ⟨rfl, rfl⟩ | ⟨g, cap, cur, rfl, hb, hg, -⟩⟩ := h
  · omega
  · exact ⟨g, cap, rfl, hb, (Array.getElem?_eq_some_iff.1 hg).1⟩
set_option maxHeartbeats 8000000 in
theorem iForgedMark_any (c : Nat → Int) (hfc : FitSheet c) (v : Value) (n b : Nat) (F : Nat → Mk) (hn : n ≤ 1048576) (hF : ∀ k, k < n → MkIn (F k) ∧ (F k).n ≤ 1048576) (pv : Value) (bp : Nat) (P : List (List UInt8)) (hP : P.length ≤ 1048576) (w : World) (h : OwnM w b v n F) (hpv : OwnT w bp pv P) (hmx : MxW w) :
    Calls Tryz.prog 15 #[.agg (kc sk 266 c), v, pv] w fun e w' => e = .returned (.tuple #[.int .i64 (fgN c n F P), .int .i64 (fgE c n F P)]) ∧ Below w.heap.size w w' := by
  have HX0 := fun w h1 => iValidMarks_any c hfc v n b F hn hF w h1
  have HH := Lib.hid h
  have HPV := Lib.hid hpv
  have HMX := Lib.hid hmx
  rcases Bool.eq_false_or_eq_true (vmB c n F) with hv | hv
  case inr =>
    rw [hv] at HX0
    rw [(fg_bad P hv).1, (fg_bad P hv).2]
    have HX := Lib.hid HX0
    clear h hpv hF hv HX0
    go_enter Tryz.func15, Tryz.ntmps15
    go_wp2_with (go_at_call 18; refine (HX.out _ (HH.out.below (by repeat' (first | with_reducible exact Below.refl _ _ | with_reducible assumption | with_reducible refine Below.drew ?_ | with_reducible refine Below.drewN ?_ _ | with_reducible refine Below.alloc ?_ ?_ _ | with_reducible refine Below.setCell ?_ ?_ _ | with_reducible refine Below.setRow ?_ ?_ _ | with_reducible refine below_step (by assumption) ?_ ?_ | (show (_ : Nat) ≤ _; first | omega | (simp <;> omega)))) (Nat.le_refl _))).mono ?_; rintro e w1 ⟨rfl, hb1⟩; have r1 := keep_rowA hb1; have f1 := keep_frA hb1; have s1 := hb1.size; (try simp only [World.size_alloc, World.size_setCell, setRow_size, World.size_drew, size_drewNm] at r1 f1 s1))
    refine bodyPost_ret (v := (.tuple #[.int .i64 0, .int .i64 1])) (res_tt rfl rfl rfl) rfl ⟨rfl, by repeat' (first | with_reducible exact Below.refl _ _ | with_reducible assumption | with_reducible refine Below.drew ?_ | with_reducible refine Below.drewN ?_ _ | with_reducible refine Below.alloc ?_ ?_ _ | with_reducible refine Below.setCell ?_ ?_ _ | with_reducible refine Below.setRow ?_ ?_ _ | with_reducible refine below_step (by assumption) ?_ ?_ | (show (_ : Nat) ≤ _; first | omega | (simp <;> omega)))⟩
  obtain ⟨hok, h6, hlay⟩ := vm_lay hv
  rw [hv] at HX0
  have HX := Lib.hid HX0
  have HA := Lib.hid (fun p w h1 h2 h3 h4 h5 => iAll_any p c hfc hok v n b F h6 hlay pv bp P hP 0 w (Nat.zero_le _) h1 h2 h3 h4 h5)
  have HA2 := Lib.hid (fun (k : Nat) (hk : k < n) p v2 w h1 h2 h3 h4 h5 => iAll_any p c hfc hok v2 (n - 1) 0 (skF F k) (by omega) (sk_lay hlay hk) pv bp P hP 0 w (Nat.zero_le _) h1 h2 h3 h4 h5)
  have HST := Lib.hid (fun hl => fg_state (F := F) (P := P) hv hl)
  have HSO := Lib.hid (fun hl k hi => fg_some (F := F) (P := P) (k := k) hv hl hi)
  have HNO := Lib.hid (fun hl hi => fg_none (F := F) (P := P) hv hl hi)
  obtain ⟨am, cm, rfl⟩ := h.1.len
  clear h hpv hF hv hok hlay HX0
  rcases hLL : allO c n F P with _ | ⟨m, L⟩
  case cons =>
    have hne : allO c n F P ≠ [] := by rw [hLL]; exact List.cons_ne_nil _ _
    rw [(HST.out hne).1, (HST.out hne).2]
    rw [hLL] at HA
    have hl1 : (0 : Int) < ((m :: L).length : Int) := by first | (simp; done) | (simp; omega)
    have hl2 : 0 < (m :: L).length := by simp
    clear hLL hne HA2 HST HSO HNO
    generalize m :: L = L2 at *
    go_enter Tryz.func15, Tryz.ntmps15
    go_wp2_with (first | (go_at_call 18; refine (HX.out _ (HH.out.below (by repeat' (first | with_reducible exact Below.refl _ _ | with_reducible assumption | with_reducible refine Below.drew ?_ | with_reducible refine Below.drewN ?_ _ | with_reducible refine Below.alloc ?_ ?_ _ | with_reducible refine Below.setCell ?_ ?_ _ | with_reducible refine Below.setRow ?_ ?_ _ | with_reducible refine below_step (by assumption) ?_ ?_ | (show (_ : Nat) ≤ _; first | omega | (simp <;> omega)))) (Nat.le_refl _))).mono ?_; rintro e w1 ⟨rfl, hb1⟩; have r1 := keep_rowA hb1; have f1 := keep_frA hb1; have s1 := hb1.size; (try simp only [World.size_alloc, World.size_setCell, setRow_size, World.size_drew, size_drewNm] at r1 f1 s1)) | (go_at_call 47; refine (HA.out w.heap.size _ (by (go_simp <;> (intros; omega))) (by first | omega | (simp <;> omega)) (HH.out.below (by repeat' (first | with_reducible exact Below.refl _ _ | with_reducible assumption | with_reducible refine Below.drew ?_ | with_reducible refine Below.drewN ?_ _ | with_reducible refine Below.alloc ?_ ?_ _ | with_reducible refine Below.setCell ?_ ?_ _ | with_reducible refine Below.setRow ?_ ?_ _ | with_reducible refine below_step (by assumption) ?_ ?_ | (show (_ : Nat) ≤ _; first | omega | (simp <;> omega)))) (Nat.le_refl _)) (HPV.out.below (by repeat' (first | with_reducible exact Below.refl _ _ | with_reducible assumption | with_reducible refine Below.drew ?_ | with_reducible refine Below.drewN ?_ _ | with_reducible refine Below.alloc ?_ ?_ _ | with_reducible refine Below.setCell ?_ ?_ _ | with_reducible refine Below.setRow ?_ ?_ _ | with_reducible refine below_step (by assumption) ?_ ?_ | (show (_ : Nat) ≤ _; first | omega | (simp <;> omega)))) (Nat.le_refl _)) (HMX.out.below (by repeat' (first | with_reducible exact Below.refl _ _ | with_reducible assumption | with_reducible refine Below.drew ?_ | with_reducible refine Below.drewN ?_ _ | with_reducible refine Below.alloc ?_ ?_ _ | with_reducible refine Below.setCell ?_ ?_ _ | with_reducible refine Below.setRow ?_ ?_ _ | with_reducible refine below_step (by assumption) ?_ ?_ | (show (_ : Nat) ≤ _; first | omega | (simp <;> omega)))))).mono ?_; rintro e w2 ⟨v2, rfl, hall, hb2⟩; obtain ⟨ar, cr, rfl⟩ := hall.len; clear hall; have r_hb2 := keep_rowA hb2; have f_hb2 := keep_frA hb2; have s_hb2 := hb2.size; (try simp only [World.size_alloc, World.size_setCell, setRow_size, World.size_drew, size_drewNm] at r_hb2 f_hb2 s_hb2)))
    refine bodyPost_ret (v := (.tuple #[.int .i64 0, .int .i64 4])) (res_tt rfl rfl rfl) rfl ⟨rfl, by repeat' (first | with_reducible exact Below.refl _ _ | with_reducible assumption | with_reducible refine Below.drew ?_ | with_reducible refine Below.drewN ?_ _ | with_reducible refine Below.alloc ?_ ?_ _ | with_reducible refine Below.setCell ?_ ?_ _ | with_reducible refine Below.setRow ?_ ?_ _ | with_reducible refine below_step (by assumption) ?_ ?_ | (show (_ : Nat) ≤ _; first | omega | (simp <;> omega)))⟩
  rw [hLL] at HA
  have HHIT := Lib.hid (fun k hk hno h => HSO.out hLL k (fg_hit (c := c) (n := n) (F := F) (P := P) (k := k) hk hno h))
  have HMISS := Lib.hid (fun hno => HNO.out hLL (fg_miss (c := c) (n := n) (F := F) (P := P) hno))
  clear hLL HST HSO HNO
  go_enter Tryz.func15, Tryz.ntmps15
  go_wp2_with (first | (go_at_call 18; refine (HX.out _ (HH.out.below (by repeat' (first | with_reducible exact Below.refl _ _ | with_reducible assumption | with_reducible refine Below.drew ?_ | with_reducible refine Below.drewN ?_ _ | with_reducible refine Below.alloc ?_ ?_ _ | with_reducible refine Below.setCell ?_ ?_ _ | with_reducible refine Below.setRow ?_ ?_ _ | with_reducible refine below_step (by assumption) ?_ ?_ | (show (_ : Nat) ≤ _; first | omega | (simp <;> omega)))) (Nat.le_refl _))).mono ?_; rintro e w1 ⟨rfl, hb1⟩; have r1 := keep_rowA hb1; have f1 := keep_frA hb1; have s1 := hb1.size; (try simp only [World.size_alloc, World.size_setCell, setRow_size, World.size_drew, size_drewNm] at r1 f1 s1)) | (go_at_call 47; refine (HA.out w.heap.size _ (by (go_simp <;> (intros; omega))) (by first | omega | (simp <;> omega)) (HH.out.below (by repeat' (first | with_reducible exact Below.refl _ _ | with_reducible assumption | with_reducible refine Below.drew ?_ | with_reducible refine Below.drewN ?_ _ | with_reducible refine Below.alloc ?_ ?_ _ | with_reducible refine Below.setCell ?_ ?_ _ | with_reducible refine Below.setRow ?_ ?_ _ | with_reducible refine below_step (by assumption) ?_ ?_ | (show (_ : Nat) ≤ _; first | omega | (simp <;> omega)))) (Nat.le_refl _)) (HPV.out.below (by repeat' (first | with_reducible exact Below.refl _ _ | with_reducible assumption | with_reducible refine Below.drew ?_ | with_reducible refine Below.drewN ?_ _ | with_reducible refine Below.alloc ?_ ?_ _ | with_reducible refine Below.setCell ?_ ?_ _ | with_reducible refine Below.setRow ?_ ?_ _ | with_reducible refine below_step (by assumption) ?_ ?_ | (show (_ : Nat) ≤ _; first | omega | (simp <;> omega)))) (Nat.le_refl _)) (HMX.out.below (by repeat' (first | with_reducible exact Below.refl _ _ | with_reducible assumption | with_reducible refine Below.drew ?_ | with_reducible refine Below.drewN ?_ _ | with_reducible refine Below.alloc ?_ ?_ _ | with_reducible refine Below.setCell ?_ ?_ _ | with_reducible refine Below.setRow ?_ ?_ _ | with_reducible refine below_step (by assumption) ?_ ?_ | (show (_ : Nat) ≤ _; first | omega | (simp <;> omega)))))).mono ?_; rintro e w2 ⟨v2, rfl, hall, hb2⟩; obtain ⟨ar, cr, rfl⟩ := hall.len; clear hall; have r_hb2 := keep_rowA hb2; have f_hb2 := keep_frA hb2; have s_hb2 := hb2.size; (try simp only [World.size_alloc, World.size_setCell, setRow_size, World.size_drew, size_drewNm] at r_hb2 f_hb2 s_hb2)))
  go_loopw [23] (fun i wr => ∃ k : Nat, k ≤ n ∧ i = .int .i64 k ∧ Below w.heap.size w wr ∧ w.heap.size + 1 ≤ wr.heap.size ∧ rowOf wr w.heap.size = kc sk 266 c ∧ ∀ j, j < k → allO c (n - 1) (skF F j) P = []) (fun i wr => n + 1 - (intOf i).toNat)
  case atStart => exact ⟨0, by omega, rfl, by repeat' (first | with_reducible exact Below.refl _ _ | with_reducible assumption | with_reducible refine Below.drew ?_ | with_reducible refine Below.drewN ?_ _ | with_reducible refine Below.alloc ?_ ?_ _ | with_reducible refine Below.setCell ?_ ?_ _ | with_reducible refine Below.setRow ?_ ?_ _ | with_reducible refine below_step (by assumption) ?_ ?_ | (show (_ : Nat) ≤ _; first | omega | (simp <;> omega))), by first | omega | (simp <;> omega), by (go_simp <;> (intros; omega)), fun j hj => absurd hj (by omega)⟩
  case round =>
    obtain ⟨k, hk, rfl, hb, hszr, hrow, hno⟩ := hrel
    have HNO2 := Lib.hid hno
    have hszb := hb.size
    clear hno
    by_cases hlt : k < n
    · have hlt2 : (k : Int) < (n : Int) := by omega
      have hw1 : IntKind.i64.wrap ((k : Int) + 1) = (k : Int) + 1 := IntWalk.i64_in _ (by omega)
      have HB2 := Lib.hid (HA2.out k hlt)
      rcases hSK : allO c (n - 1) (skF F k) P with _ | ⟨m, L⟩
      · rw [hSK] at HB2
        have HN := Lib.hid (show ∀ j, j < k + 1 → allO c (n - 1) (skF F j) P = [] from fun j hj => by
          rcases Nat.lt_succ_iff_lt_or_eq.1 hj with h | rfl
          · exact HNO2.out j h
          · exact hSK)
        clear hSK
        go_wp2_with (first | (go_at_call 51; refine (clone_marks _ n b F (by omega) hn _ (HH.out.below (by repeat' (first | with_reducible exact Below.refl _ _ | with_reducible assumption | with_reducible refine Below.drew ?_ | with_reducible refine Below.drewN ?_ _ | with_reducible refine Below.alloc ?_ ?_ _ | with_reducible refine Below.setCell ?_ ?_ _ | with_reducible refine Below.setRow ?_ ?_ _ | with_reducible refine below_step (by assumption) ?_ ?_ | (show (_ : Nat) ≤ _; first | omega | (simp <;> omega)))) (Nat.le_refl _))).mono ?_; rintro e w3 ⟨v3, rfl, hown3, hb3⟩; obtain ⟨g3, c3, rfl, hg31, hg32⟩ := owns_posW hown3 (by omega); have hs3 := hb3.size; have HO3 := Lib.hid hown3; clear hown3; have r_hb3 := keep_rowA hb3; have f_hb3 := keep_frA hb3; have s_hb3 := hb3.size; (try simp only [World.size_alloc, World.size_setCell, setRow_size, World.size_drew, size_drewNm] at r_hb3 f_hb3 s_hb3)) | (go_at_call 50; refine (delete_marks g3 n k c3 _ F hlt (by omega) _ HO3.out (mk_one HH.out)).mono ?_; rintro e w4 ⟨rfl, hown4, hb4⟩; have HO4 := Lib.hid (own_sk HH.out hlt (by repeat' (first | with_reducible exact Below.refl _ _ | with_reducible assumption | with_reducible refine Below.drew ?_ | with_reducible refine Below.drewN ?_ _ | with_reducible refine Below.alloc ?_ ?_ _ | with_reducible refine Below.setCell ?_ ?_ _ | with_reducible refine Below.setRow ?_ ?_ _ | with_reducible refine below_step (by assumption) ?_ ?_ | (show (_ : Nat) ≤ _; first | omega | (simp <;> omega)))) hown4); clear hown4; have hs4 := hb4.size; have r_hb4 := keep_rowA hb4; have f_hb4 := keep_frA hb4; have s_hb4 := hb4.size; (try simp only [World.size_alloc, World.size_setCell, setRow_size, World.size_drew, size_drewNm] at r_hb4 f_hb4 s_hb4)) | (go_at_call 47; refine (HB2.out w.heap.size _ _ (by (go_simp <;> (intros; omega))) (by first | omega | (simp <;> omega)) (HO4.out.below (by repeat' (first | with_reducible exact Below.refl _ _ | with_reducible assumption | with_reducible refine Below.drew ?_ | with_reducible refine Below.drewN ?_ _ | with_reducible refine Below.alloc ?_ ?_ _ | with_reducible refine Below.setCell ?_ ?_ _ | with_reducible refine Below.setRow ?_ ?_ _ | with_reducible refine below_step (by assumption) ?_ ?_ | (show (_ : Nat) ≤ _; first | omega | (simp <;> omega)))) (Nat.le_refl _)) (HPV.out.below (by repeat' (first | with_reducible exact Below.refl _ _ | with_reducible assumption | with_reducible refine Below.drew ?_ | with_reducible refine Below.drewN ?_ _ | with_reducible refine Below.alloc ?_ ?_ _ | with_reducible refine Below.setCell ?_ ?_ _ | with_reducible refine Below.setRow ?_ ?_ _ | with_reducible refine below_step (by assumption) ?_ ?_ | (show (_ : Nat) ≤ _; first | omega | (simp <;> omega)))) (Nat.le_refl _)) (HMX.out.below (by repeat' (first | with_reducible exact Below.refl _ _ | with_reducible assumption | with_reducible refine Below.drew ?_ | with_reducible refine Below.drewN ?_ _ | with_reducible refine Below.alloc ?_ ?_ _ | with_reducible refine Below.setCell ?_ ?_ _ | with_reducible refine Below.setRow ?_ ?_ _ | with_reducible refine below_step (by assumption) ?_ ?_ | (show (_ : Nat) ≤ _; first | omega | (simp <;> omega)))))).mono ?_; rintro e w5 ⟨v5, rfl, hall, hb5⟩; obtain ⟨ar5, cr5, rfl⟩ := hall.len; clear hall; have r_hb5 := keep_rowA hb5; have f_hb5 := keep_frA hb5; have s_hb5 := hb5.size; (try simp only [World.size_alloc, World.size_setCell, setRow_size, World.size_drew, size_drewNm] at r_hb5 f_hb5 s_hb5)))
        go_roundw
        case rel => first | exact ⟨k + 1, by omega, by go_num, by repeat' (first | with_reducible exact Below.refl _ _ | with_reducible assumption | with_reducible refine Below.drew ?_ | with_reducible refine Below.drewN ?_ _ | with_reducible refine Below.alloc ?_ ?_ _ | with_reducible refine Below.setCell ?_ ?_ _ | with_reducible refine Below.setRow ?_ ?_ _ | with_reducible refine below_step (by assumption) ?_ ?_ | (show (_ : Nat) ≤ _; first | omega | (simp <;> omega))), by first | omega | (simp <;> omega), by (go_simp <;> (intros; omega)), HN.out⟩ | ((repeat (with_reducible apply Exists.intro)); refine And.intro ?_ ?_; rotate_left; (focus ((repeat' (with_reducible apply And.intro)) <;> rfl)); exact ⟨k + 1, by omega, by go_num, by repeat' (first | with_reducible exact Below.refl _ _ | with_reducible assumption | with_reducible refine Below.drew ?_ | with_reducible refine Below.drewN ?_ _ | with_reducible refine Below.alloc ?_ ?_ _ | with_reducible refine Below.setCell ?_ ?_ _ | with_reducible refine Below.setRow ?_ ?_ _ | with_reducible refine below_step (by assumption) ?_ ?_ | (show (_ : Nat) ≤ _; first | omega | (simp <;> omega))), by first | omega | (simp <;> omega), by (go_simp <;> (intros; omega)), HN.out⟩)
        case measure => simp [intOf]; omega
      · have HV := Lib.hid (HHIT.out k hlt HNO2.out (by rw [hSK]; exact List.cons_ne_nil _ _))
        rw [hSK] at HB2
        have hl1 : (0 : Int) < ((m :: L).length : Int) := by first | (simp; done) | (simp; omega)
        have hl2 : 0 < (m :: L).length := by simp
        clear hSK
        generalize m :: L = L2 at *
        go_wp2_with (first | (go_at_call 51; refine (clone_marks _ n b F (by omega) hn _ (HH.out.below (by repeat' (first | with_reducible exact Below.refl _ _ | with_reducible assumption | with_reducible refine Below.drew ?_ | with_reducible refine Below.drewN ?_ _ | with_reducible refine Below.alloc ?_ ?_ _ | with_reducible refine Below.setCell ?_ ?_ _ | with_reducible refine Below.setRow ?_ ?_ _ | with_reducible refine below_step (by assumption) ?_ ?_ | (show (_ : Nat) ≤ _; first | omega | (simp <;> omega)))) (Nat.le_refl _))).mono ?_; rintro e w3 ⟨v3, rfl, hown3, hb3⟩; obtain ⟨g3, c3, rfl, hg31, hg32⟩ := owns_posW hown3 (by omega); have hs3 := hb3.size; have HO3 := Lib.hid hown3; clear hown3; have r_hb3 := keep_rowA hb3; have f_hb3 := keep_frA hb3; have s_hb3 := hb3.size; (try simp only [World.size_alloc, World.size_setCell, setRow_size, World.size_drew, size_drewNm] at r_hb3 f_hb3 s_hb3)) | (go_at_call 50; refine (delete_marks g3 n k c3 _ F hlt (by omega) _ HO3.out (mk_one HH.out)).mono ?_; rintro e w4 ⟨rfl, hown4, hb4⟩; have HO4 := Lib.hid (own_sk HH.out hlt (by repeat' (first | with_reducible exact Below.refl _ _ | with_reducible assumption | with_reducible refine Below.drew ?_ | with_reducible refine Below.drewN ?_ _ | with_reducible refine Below.alloc ?_ ?_ _ | with_reducible refine Below.setCell ?_ ?_ _ | with_reducible refine Below.setRow ?_ ?_ _ | with_reducible refine below_step (by assumption) ?_ ?_ | (show (_ : Nat) ≤ _; first | omega | (simp <;> omega)))) hown4); clear hown4; have hs4 := hb4.size; have r_hb4 := keep_rowA hb4; have f_hb4 := keep_frA hb4; have s_hb4 := hb4.size; (try simp only [World.size_alloc, World.size_setCell, setRow_size, World.size_drew, size_drewNm] at r_hb4 f_hb4 s_hb4)) | (go_at_call 47; refine (HB2.out w.heap.size _ _ (by (go_simp <;> (intros; omega))) (by first | omega | (simp <;> omega)) (HO4.out.below (by repeat' (first | with_reducible exact Below.refl _ _ | with_reducible assumption | with_reducible refine Below.drew ?_ | with_reducible refine Below.drewN ?_ _ | with_reducible refine Below.alloc ?_ ?_ _ | with_reducible refine Below.setCell ?_ ?_ _ | with_reducible refine Below.setRow ?_ ?_ _ | with_reducible refine below_step (by assumption) ?_ ?_ | (show (_ : Nat) ≤ _; first | omega | (simp <;> omega)))) (Nat.le_refl _)) (HPV.out.below (by repeat' (first | with_reducible exact Below.refl _ _ | with_reducible assumption | with_reducible refine Below.drew ?_ | with_reducible refine Below.drewN ?_ _ | with_reducible refine Below.alloc ?_ ?_ _ | with_reducible refine Below.setCell ?_ ?_ _ | with_reducible refine Below.setRow ?_ ?_ _ | with_reducible refine below_step (by assumption) ?_ ?_ | (show (_ : Nat) ≤ _; first | omega | (simp <;> omega)))) (Nat.le_refl _)) (HMX.out.below (by repeat' (first | with_reducible exact Below.refl _ _ | with_reducible assumption | with_reducible refine Below.drew ?_ | with_reducible refine Below.drewN ?_ _ | with_reducible refine Below.alloc ?_ ?_ _ | with_reducible refine Below.setCell ?_ ?_ _ | with_reducible refine Below.setRow ?_ ?_ _ | with_reducible refine below_step (by assumption) ?_ ?_ | (show (_ : Nat) ≤ _; first | omega | (simp <;> omega)))))).mono ?_; rintro e w5 ⟨v5, rfl, hall, hb5⟩; obtain ⟨ar5, cr5, rfl⟩ := hall.len; clear hall; have r_hb5 := keep_rowA hb5; have f_hb5 := keep_frA hb5; have s_hb5 := hb5.size; (try simp only [World.size_alloc, World.size_setCell, setRow_size, World.size_drew, size_drewNm] at r_hb5 f_hb5 s_hb5)))
        refine bodyPost_ret (v := .tuple #[.int .i64 (k : Int), .int .i64 0]) (res_tt rfl rfl rfl) rfl ⟨by rw [HV.out.1, HV.out.2], by repeat' (first | with_reducible exact Below.refl _ _ | with_reducible assumption | with_reducible refine Below.drew ?_ | with_reducible refine Below.drewN ?_ _ | with_reducible refine Below.alloc ?_ ?_ _ | with_reducible refine Below.setCell ?_ ?_ _ | with_reducible refine Below.setRow ?_ ?_ _ | with_reducible refine below_step (by assumption) ?_ ?_ | (show (_ : Nat) ≤ _; first | omega | (simp <;> omega)))⟩
    · have hke : k = n := by omega
      subst hke
      have HV := Lib.hid (HMISS.out (fun j hj => HNO2.out j hj))
      go_wp2
      refine bodyPost_ret (v := .tuple #[.int .i64 0, .int .i64 6]) (res_tt rfl rfl rfl) rfl ⟨by rw [HV.out.1, HV.out.2], by repeat' (first | with_reducible exact Below.refl _ _ | with_reducible assumption | with_reducible refine Below.drew ?_ | with_reducible refine Below.drewN ?_ _ | with_reducible refine Below.alloc ?_ ?_ _ | with_reducible refine Below.setCell ?_ ?_ _ | with_reducible refine Below.setRow ?_ ?_ _ | with_reducible refine below_step (by assumption) ?_ ?_ | (show (_ : Nat) ≤ _; first | omega | (simp <;> omega)))⟩
end Go.Proofs.YtejnejplofddnaaGreatDoor
