/- The orders in which marks make a picture: both sides. Written by gen_orders.py. -/
import Derived.Test.YtifhffnppgkjgaaGreatDoorNumS
import Derived.Test.YtifhffnppgkjgaaGreatDoorPntI
namespace Go.Proofs.YtifhffnppgkjgaaGreatDoor
open Go.RowKit
set_option linter.unusedVariables false
set_option linter.unusedSimpArgs false
set_option maxRecDepth 100000
/-- The picture that marks make in an order is this one. -/
def okPic (c : Nat → Int) (F : Nat → Mk) (W H : Nat) (P : List (List UInt8)) (l : List Nat) : Bool := eqL (linB (chP c (pntG F l)) W H) P
theorem ordTo_len {ok : List Nat → Bool} {n d k : Nat} {l m : List Nat} (h : m ∈ ordTo ok n d l k) : m.length = l.length + 1 + d := by
  unfold ordTo at h
  obtain ⟨i, -, h⟩ := List.mem_flatMap.1 h
  split at h
  · cases h
  · have := (ordL_len h).1
    rw [List.length_append, List.length_singleton] at this
    exact this
theorem ordTo_few {ok : List Nat → Bool} {n d k : Nat} {l : List Nat} (hn : n ≤ 6) (hk : k ≤ n) (hd : d ≤ 6) : (ordTo ok n d l k).length ≤ 300000 := by
  have key : ∀ k, k ≤ n → (ordTo ok n d l k).length ≤ k * 6 ^ d := by
    intro k
    induction k with
    | zero => intro _; simp [ordTo]
    | succ k ih =>
      intro hk
      have := ih (by omega)
      by_cases hm : k ∈ l
      · rw [ordTo_in hm, Nat.succ_mul]; exact Nat.le_trans this (Nat.le_add_right _ _)
      · rw [ordTo_out hm, List.length_append, Nat.succ_mul]
        have h3 := ordL_few ok hn d (l ++ [k])
        generalize 6 ^ d = P at *
        omega
  have h1 := key k hk
  have h2 : k * 6 ^ d ≤ 6 * 6 ^ 6 := Nat.mul_le_mul (by omega) (Nat.pow_le_pow_right (by decide) hd)
  have h3 : 6 * 6 ^ 6 = 279936 := by decide
  omega
theorem odL_len (D : Od) : (odL D).length = D.length := by unfold odL; rw [List.length_map]
theorem od_pos {D : Od} {L : List (List Nat)} {m : Nat} (h : odL D = L) (hL : ∀ x ∈ L, x.length = m) (hm : 0 < m) : ∀ q ∈ D, 0 < q.2.length := fun q hq => by
  have := hL q.2 (by rw [← h]; exact List.mem_map.2 ⟨q, hq, rfl⟩)
  omega
theorem i64s_info : ∃ i z, Tryz.prog.info? 49 = some i ∧ i.zero = some z ∧ i.size = 1 ∧ i.bytes = 24 ∧ z.cells.size = 1 := by
  have h : (match Tryz.prog.info? 49 with | some i => (match i.zero with | some z => i.size == 1 && i.bytes == 24 && z.cells.size == 1 | none => false) | none => false) = true := by kernel_rfl
  split at h
  · rename_i i hi
    split at h
    · rename_i z hz
      simp only [Bool.and_eq_true, beq_iff_eq] at h
      exact ⟨i, z, hi, hz, h.1.1, h.1.2, h.2⟩
    · cases h
  · cases h
theorem size_marks (v : Value) (b n : Nat) (F : Nat → Mk) (w : World) (h : OwnM w b v n F) : Calls Tryz.prog 41 #[v] w fun e w' => e = .returned (.int .i64 (n : Int)) ∧ w = w' := by
  obtain ⟨a, cap, rfl⟩ := h.1.len
  clear h
  go_enter Tryz.func41, Tryz.ntmps41
  go_wp2
  go_ret
  exact ⟨rfl, rfl⟩
set_option maxHeartbeats 8000000 in
theorem l06Orders_any (p : Nat) (c : Nat → Int) (hfc : FitSheet c) (W H : Nat) (hW : c 0 = W) (hH : c 1 = H) (W0 : 0 < W) (W8 : W ≤ 8) (H0 : 0 < H) (H8 : H ≤ 8) (v : Value) (n b : Nat) (F : Nat → Mk) (hn : n ≤ 6) (hF : ∀ k, k < n → MkLay (F k)) (pv : Value) (bp : Nat) (P : List (List UInt8)) (hP : P.length ≤ 1048576) :
    ∀ (d : Nat) (l : List Nat) (lv : Value) (bl B : Nat) (w : World), l.length + d = n → B ≤ bl → B ≤ w.heap.size → (∀ i ∈ l, i < n) → rowOf w p = kc sk 266 c → p < w.heap.size → OwnM w b v n F → OwnT w bp pv P → OwnK .i64 1 w bl lv l.length (nl l) →
    Calls Tryz.prog 29 #[.pointer (some ⟨p, 0, none⟩), v, pv, lv] w fun e w' => ∃ (v' : Value) (D : Od), e = .returned v' ∧ w'.ownsRow w.heap.size 49 1 v' D.length (odV D) ∧ odL D = ordL (okPic c F W H P) n d l ∧ OdW w' B D ∧ Below w.heap.size w w' := by
  intro d
  induction d with
  | zero =>
    intro l lv bl B w hd hB1 hB2 hli hr hp hm hpv hlv
    have hq : ((l.length : Int) == (n : Int)) = true := by rw [beq_iff_eq]; omega
    have hq2 : (l.length : Int) = (n : Int) := by omega
    have hPT0 := fun w2 h1 h2 h3 h4 => l06Paint_any p c hfc W H hW hH W0 W8 H8 v n b F (by omega) hF lv bl l (by omega) hli w2 h1 h2 h3 h4
    have HPT := Lib.hid hPT0
    have hln : (linB (chP c (pntG F l)) W H).length = H := linB_len _ _ _
    have HSM0 := fun v1 v2 b1 b2 w h1 h2 => l06Same_any v1 v2 b1 b2 (linB (chP c (pntG F l)) W H) P (by omega) hP w h1 h2
    rw [show eqL (linB (chP c (pntG F l)) W H) P = okPic c F W H P l from rfl] at HSM0
    have HST := Lib.hid (fun (w2 : World) (B : Nat) (v2 : Value) (h : w2.ownsRow B 9 1 v2 H (strV (linB (chP c (pntG F l)) W H))) => OwnT.of (L := linB (chP c (pntG F l)) W H) (by rw [hln]; exact h))
    have HM := Lib.hid hm
    have HL := Lib.hid hlv
    have HPV := Lib.hid hpv
    have HE := Lib.hid (show ordL (okPic c F W H P) n 0 l = if okPic c F W H P l = true then [l] else [] from rfl)
    obtain ⟨i0, z0, hi0, hz0, hs0, hb0, hc0⟩ := i64s_info
    have HI := Lib.hid (And.intro hi0 (And.intro hz0 (And.intro hs0 (And.intro hb0 hc0))))
    obtain ⟨am, cm, rfl⟩ := hm.1.len
    obtain ⟨al, cl, rfl⟩ := hlv.len
    clear hPT0 hln hm hlv hpv hi0 hz0 hs0 hb0 hc0
    generalize okPic c F W H P l = z at *
    have HSM := Lib.hid HSM0
    clear HSM0
    cases z with
    | true =>
      go_enter Tryz.func29, Tryz.ntmps29
      go_wp2_with (first | (go_at_call 53; refine (HPT.out _ (by (go_simp <;> (intros; omega))) (by first | omega | (simp <;> omega)) (HM.out.below (by repeat' (first | with_reducible exact Below.refl _ _ | with_reducible assumption | with_reducible refine Below.drew ?_ | with_reducible refine Below.drewN ?_ _ | with_reducible refine Below.alloc ?_ ?_ _ | with_reducible refine Below.setCell ?_ ?_ _ | with_reducible refine Below.setRow ?_ ?_ _ | with_reducible refine below_step (by assumption) ?_ ?_ | (show (_ : Nat) ≤ _; first | omega | (simp <;> omega)))) (Nat.le_refl _)) (HL.out.below (by repeat' (first | with_reducible exact Below.refl _ _ | with_reducible assumption | with_reducible refine Below.drew ?_ | with_reducible refine Below.drewN ?_ _ | with_reducible refine Below.alloc ?_ ?_ _ | with_reducible refine Below.setCell ?_ ?_ _ | with_reducible refine Below.setRow ?_ ?_ _ | with_reducible refine below_step (by assumption) ?_ ?_ | (show (_ : Nat) ≤ _; first | omega | (simp <;> omega)))) (Nat.le_refl _))).mono ?_; rintro e w1 ⟨v1, rfl, hown1, hb1⟩; have H1 := Lib.hid (HST.out _ _ _ hown1); clear hown1; have r_hb1 := keep_rowA hb1; have f_hb1 := keep_frA hb1; have s_hb1 := hb1.size; (try simp only [World.size_alloc, World.size_setCell, setRow_size, World.size_drew, size_drewNm] at r_hb1 f_hb1 s_hb1)) | (go_at_call 52; refine (HSM.out _ _ _ _ _ H1.out (HPV.out.below (by repeat' (first | with_reducible exact Below.refl _ _ | with_reducible assumption | with_reducible refine Below.drew ?_ | with_reducible refine Below.drewN ?_ _ | with_reducible refine Below.alloc ?_ ?_ _ | with_reducible refine Below.setCell ?_ ?_ _ | with_reducible refine Below.setRow ?_ ?_ _ | with_reducible refine below_step (by assumption) ?_ ?_ | (show (_ : Nat) ≤ _; first | omega | (simp <;> omega)))) (Nat.le_refl _))).mono ?_; rintro e w2 ⟨rfl, hb2⟩; have r_hb2 := keep_rowA hb2; have f_hb2 := keep_frA hb2; have s_hb2 := hb2.size; (try simp only [World.size_alloc, World.size_setCell, setRow_size, World.size_drew, size_drewNm] at r_hb2 f_hb2 s_hb2)) | (at_builtin; refine wpList_append_own _ rfl _ _ 61 rfl w.heap.size 49 i0 z0 1 24 Tryz.underlying61 HI.out.1 HI.out.2.1 HI.out.2.2.1 HI.out.2.2.2.1 HI.out.2.2.2.2 (by decide) _ _ _ rfl ((owns_below (owns_empty1 w _) (by repeat' (first | with_reducible exact Below.refl _ _ | with_reducible assumption | with_reducible refine Below.drew ?_ | with_reducible refine Below.drewN ?_ _ | with_reducible refine Below.alloc ?_ ?_ _ | with_reducible refine Below.setCell ?_ ?_ _ | with_reducible refine Below.setRow ?_ ?_ _ | with_reducible refine below_step (by assumption) ?_ ?_ | (show (_ : Nat) ≤ _; first | omega | (simp <;> omega))))).alloc _) ⟨w2.heap.size, 0, none⟩ 1 1 [.slice al l.length cl] rfl rfl ?c1 ?c2 ?c3 ?c4 ?c5 ?_))
      case c1 =>
        intro j u hj
        match j, hj with
        | 0, hj => simp at hj; subst hj; simp [Addr.add]
      case c2 => intro u hu; simp at hu; subst hu; rfl
      case c3 => unfold maxLen; omega
      case c4 => omega
      case c5 => first | omega | (simp <;> omega)
      intro v3 w3 hown3 hgrow3 _
      have hbg : Below w.heap.size w w3 := below_grown (Below.alloc (by repeat' (first | with_reducible exact Below.refl _ _ | with_reducible assumption | with_reducible refine Below.drew ?_ | with_reducible refine Below.drewN ?_ _ | with_reducible refine Below.alloc ?_ ?_ _ | with_reducible refine Below.setCell ?_ ?_ _ | with_reducible refine Below.setRow ?_ ?_ _ | with_reducible refine below_step (by assumption) ?_ ?_ | (show (_ : Nat) ≤ _; first | omega | (simp <;> omega)))) (by first | omega | (simp <;> omega)) _) hgrow3 (fun k hk => by simp [Value.ownBlock] at hk; omega) (by first | omega | (simp <;> omega))
      have HX := Lib.hid hown3
      have HB := Lib.hid hbg
      clear hown3 hgrow3 hbg
      go_wp2
      go_ret
      exact ⟨_, [(.slice al l.length cl, l)], rfl, HX.out, by rw [HE.out]; rfl, (fun q hq => by rw [List.mem_singleton.1 hq]; exact (HL.out.below HB.out (Nat.le_refl _)).down hB1), HB.out⟩
    | false =>
      go_enter Tryz.func29, Tryz.ntmps29
      go_wp2_with (first | (go_at_call 53; refine (HPT.out _ (by (go_simp <;> (intros; omega))) (by first | omega | (simp <;> omega)) (HM.out.below (by repeat' (first | with_reducible exact Below.refl _ _ | with_reducible assumption | with_reducible refine Below.drew ?_ | with_reducible refine Below.drewN ?_ _ | with_reducible refine Below.alloc ?_ ?_ _ | with_reducible refine Below.setCell ?_ ?_ _ | with_reducible refine Below.setRow ?_ ?_ _ | with_reducible refine below_step (by assumption) ?_ ?_ | (show (_ : Nat) ≤ _; first | omega | (simp <;> omega)))) (Nat.le_refl _)) (HL.out.below (by repeat' (first | with_reducible exact Below.refl _ _ | with_reducible assumption | with_reducible refine Below.drew ?_ | with_reducible refine Below.drewN ?_ _ | with_reducible refine Below.alloc ?_ ?_ _ | with_reducible refine Below.setCell ?_ ?_ _ | with_reducible refine Below.setRow ?_ ?_ _ | with_reducible refine below_step (by assumption) ?_ ?_ | (show (_ : Nat) ≤ _; first | omega | (simp <;> omega)))) (Nat.le_refl _))).mono ?_; rintro e w1 ⟨v1, rfl, hown1, hb1⟩; have H1 := Lib.hid (HST.out _ _ _ hown1); clear hown1; have r_hb1 := keep_rowA hb1; have f_hb1 := keep_frA hb1; have s_hb1 := hb1.size; (try simp only [World.size_alloc, World.size_setCell, setRow_size, World.size_drew, size_drewNm] at r_hb1 f_hb1 s_hb1)) | (go_at_call 52; refine (HSM.out _ _ _ _ _ H1.out (HPV.out.below (by repeat' (first | with_reducible exact Below.refl _ _ | with_reducible assumption | with_reducible refine Below.drew ?_ | with_reducible refine Below.drewN ?_ _ | with_reducible refine Below.alloc ?_ ?_ _ | with_reducible refine Below.setCell ?_ ?_ _ | with_reducible refine Below.setRow ?_ ?_ _ | with_reducible refine below_step (by assumption) ?_ ?_ | (show (_ : Nat) ≤ _; first | omega | (simp <;> omega)))) (Nat.le_refl _))).mono ?_; rintro e w2 ⟨rfl, hb2⟩; have r_hb2 := keep_rowA hb2; have f_hb2 := keep_frA hb2; have s_hb2 := hb2.size; (try simp only [World.size_alloc, World.size_setCell, setRow_size, World.size_drew, size_drewNm] at r_hb2 f_hb2 s_hb2)))
      go_ret
      exact ⟨_, [], rfl, owns_below (owns_empty1 w _) (by repeat' (first | with_reducible exact Below.refl _ _ | with_reducible assumption | with_reducible refine Below.drew ?_ | with_reducible refine Below.drewN ?_ _ | with_reducible refine Below.alloc ?_ ?_ _ | with_reducible refine Below.setCell ?_ ?_ _ | with_reducible refine Below.setRow ?_ ?_ _ | with_reducible refine below_step (by assumption) ?_ ?_ | (show (_ : Nat) ≤ _; first | omega | (simp <;> omega)))), by rw [HE.out]; rfl, (fun q hq => by cases hq), by repeat' (first | with_reducible exact Below.refl _ _ | with_reducible assumption | with_reducible refine Below.drew ?_ | with_reducible refine Below.drewN ?_ _ | with_reducible refine Below.alloc ?_ ?_ _ | with_reducible refine Below.setCell ?_ ?_ _ | with_reducible refine Below.setRow ?_ ?_ _ | with_reducible refine below_step (by assumption) ?_ ?_ | (show (_ : Nat) ≤ _; first | omega | (simp <;> omega)))⟩
  | succ d ih =>
    intro l lv bl B w hd hB1 hB2 hli hr hp hm hpv hlv
    have hq : ((l.length : Int) == (n : Int)) = false := by rw [beq_eq_false_iff_ne]; omega
    have hq2 : ¬ (l.length : Int) = (n : Int) := by omega
    have HIH := Lib.hid ih
    have HM := Lib.hid hm
    have HL := Lib.hid hlv
    have HPV := Lib.hid hpv
    have HLI := Lib.hid hli
    have hl20 : l.length ≤ 1048576 := by omega
    have HHAS := Lib.hid (fun (i : Nat) w h => l00Has_any lv bl l hl20 i w h)
    have HOWN := Lib.hid (fun w h => l00Own_any lv bl l hl20 w h)
    obtain ⟨i0, z0, hi0, hz0, hs0, hb0, hc0⟩ := i64s_info
    have HI := Lib.hid (And.intro hi0 (And.intro hz0 (And.intro hs0 (And.intro hb0 hc0))))
    obtain ⟨i1, z1, hi1, hz1, hs1, hb1, hc1⟩ := i64_info
    have HI1 := Lib.hid (And.intro hi1 (And.intro hz1 (And.intro hs1 (And.intro hb1 hc1))))
    obtain ⟨am, cm, rfl⟩ := hm.1.len
    obtain ⟨al, cl, rfl⟩ := hlv.len
    clear ih hm hlv hpv hli hi0 hz0 hs0 hb0 hc0 hi1 hz1 hs1 hb1 hc1
    rw [ordL_all]
    go_enter Tryz.func29, Tryz.ntmps29
    go_wp2
    go_loopw [10, 9] (fun i u wr => ∃ (k g cap : Nat) (D : Od), k ≤ n ∧ i = .int .i64 k ∧ u = .slice (some ⟨g, 0, none⟩) D.length cap ∧ wr.ownsRow w.heap.size 49 1 (.slice (some ⟨g, 0, none⟩) D.length cap) D.length (odV D) ∧ odL D = ordTo (okPic c F W H P) n d l k ∧ OdW wr B D ∧ (D.length = 0 → cap = 0) ∧ Below w.heap.size w wr) (fun i u wr => n + 1 - (intOf i).toNat)
    case atStart => exact ⟨0, w.heap.size, 0, [], by omega, rfl, rfl, owns_empty1 _ _, rfl, (fun q hq => by cases hq), fun _ => rfl, by repeat' (first | with_reducible exact Below.refl _ _ | with_reducible assumption | with_reducible refine Below.drew ?_ | with_reducible refine Below.drewN ?_ _ | with_reducible refine Below.alloc ?_ ?_ _ | with_reducible refine Below.setCell ?_ ?_ _ | with_reducible refine Below.setRow ?_ ?_ _ | with_reducible refine below_step (by assumption) ?_ ?_ | (show (_ : Nat) ≤ _; first | omega | (simp <;> omega)))⟩
    case round =>
      obtain ⟨k, g, cap, D, hk, rfl, rfl, hown, hod, hodw, hc0, hb⟩ := hrel
      have HO := Lib.hid hown
      have HD := Lib.hid hod
      have HW := Lib.hid hodw
      have HC := Lib.hid hc0
      have hpr := (keep_row hb hp).trans hr
      have hszb := hb.size
      have hpw : p < wr.heap.size := by omega
      clear hown hod hodw hc0
      by_cases hlt : k < n
      · have hlt2 : (k : Int) < (n : Int) := by omega
        have hw1 : IntKind.i64.wrap ((k : Int) + 1) = ((k + 1 : Nat) : Int) := by rw [IntWalk.i64_in _ (by omega)]; rfl
        have HH0 := HHAS.out k
        by_cases hin : k ∈ l
        · rw [decide_eq_true hin] at HH0
          have HN := Lib.hid (ordTo_in (ok := okPic c F W H P) (n := n) (d := d) hin)
          have HH := Lib.hid HH0
          clear HH0 hin
          go_wp2_with (go_at_call 54; refine (HH.out _ (HL.out.below (by repeat' (first | with_reducible exact Below.refl _ _ | with_reducible assumption | with_reducible refine Below.drew ?_ | with_reducible refine Below.drewN ?_ _ | with_reducible refine Below.alloc ?_ ?_ _ | with_reducible refine Below.setCell ?_ ?_ _ | with_reducible refine Below.setRow ?_ ?_ _ | with_reducible refine below_step (by assumption) ?_ ?_ | (show (_ : Nat) ≤ _; first | omega | (simp <;> omega)))) (Nat.le_refl _))).mono ?_; rintro e w1 ⟨rfl, hb1⟩; have r_hb1 := keep_rowA hb1; have f_hb1 := keep_frA hb1; have s_hb1 := hb1.size; (try simp only [World.size_alloc, World.size_setCell, setRow_size, World.size_drew, size_drewNm] at r_hb1 f_hb1 s_hb1))
          go_roundw
          case rel => first | exact ⟨k + 1, g, cap, D, by omega, by go_num, rfl, owns_below HO.out (by repeat' (first | with_reducible exact Below.refl _ _ | with_reducible assumption | with_reducible refine Below.drew ?_ | with_reducible refine Below.drewN ?_ _ | with_reducible refine Below.alloc ?_ ?_ _ | with_reducible refine Below.setCell ?_ ?_ _ | with_reducible refine Below.setRow ?_ ?_ _ | with_reducible refine below_step (by assumption) ?_ ?_ | (show (_ : Nat) ≤ _; first | omega | (simp <;> omega)))), by rw [HN.out]; exact HD.out, HW.out.below (by repeat' (first | with_reducible exact Below.refl _ _ | with_reducible assumption | with_reducible refine Below.drew ?_ | with_reducible refine Below.drewN ?_ _ | with_reducible refine Below.alloc ?_ ?_ _ | with_reducible refine Below.setCell ?_ ?_ _ | with_reducible refine Below.setRow ?_ ?_ _ | with_reducible refine below_step (by assumption) ?_ ?_ | (show (_ : Nat) ≤ _; first | omega | (simp <;> omega)))), HC.out, by repeat' (first | with_reducible exact Below.refl _ _ | with_reducible assumption | with_reducible refine Below.drew ?_ | with_reducible refine Below.drewN ?_ _ | with_reducible refine Below.alloc ?_ ?_ _ | with_reducible refine Below.setCell ?_ ?_ _ | with_reducible refine Below.setRow ?_ ?_ _ | with_reducible refine below_step (by assumption) ?_ ?_ | (show (_ : Nat) ≤ _; first | omega | (simp <;> omega)))⟩ | ((repeat (with_reducible apply Exists.intro)); refine And.intro ?_ ?_; rotate_left; (focus ((repeat' (with_reducible apply And.intro)) <;> rfl)); exact ⟨k + 1, g, cap, D, by omega, by go_num, rfl, owns_below HO.out (by repeat' (first | with_reducible exact Below.refl _ _ | with_reducible assumption | with_reducible refine Below.drew ?_ | with_reducible refine Below.drewN ?_ _ | with_reducible refine Below.alloc ?_ ?_ _ | with_reducible refine Below.setCell ?_ ?_ _ | with_reducible refine Below.setRow ?_ ?_ _ | with_reducible refine below_step (by assumption) ?_ ?_ | (show (_ : Nat) ≤ _; first | omega | (simp <;> omega)))), by rw [HN.out]; exact HD.out, HW.out.below (by repeat' (first | with_reducible exact Below.refl _ _ | with_reducible assumption | with_reducible refine Below.drew ?_ | with_reducible refine Below.drewN ?_ _ | with_reducible refine Below.alloc ?_ ?_ _ | with_reducible refine Below.setCell ?_ ?_ _ | with_reducible refine Below.setRow ?_ ?_ _ | with_reducible refine below_step (by assumption) ?_ ?_ | (show (_ : Nat) ≤ _; first | omega | (simp <;> omega)))), HC.out, by repeat' (first | with_reducible exact Below.refl _ _ | with_reducible assumption | with_reducible refine Below.drew ?_ | with_reducible refine Below.drewN ?_ _ | with_reducible refine Below.alloc ?_ ?_ _ | with_reducible refine Below.setCell ?_ ?_ _ | with_reducible refine Below.setRow ?_ ?_ _ | with_reducible refine below_step (by assumption) ?_ ?_ | (show (_ : Nat) ≤ _; first | omega | (simp <;> omega)))⟩)
          case measure => simp [intOf]; omega
        · rw [decide_eq_false hin] at HH0
          have HN := Lib.hid (ordTo_out (ok := okPic c F W H P) (n := n) (d := d) hin)
          have HH := Lib.hid HH0
          have hl2 : (l ++ [k]).length = l.length + 1 := by simp
          have hl3 : ∀ i ∈ l ++ [k], i < n := fun i hi => by
            rcases List.mem_append.1 hi with h | h
            · exact HLI.out i h
            · rw [List.mem_singleton.1 h]; exact hlt
          have HRC := Lib.hid (fun lv bl w h1 h2 => HIH.out (l ++ [k]) lv bl B w (by omega) h1 h2 hl3)
          have HFEW := Lib.hid (ordTo_few (ok := okPic c F W H P) (n := n) (d := d) (l := l) (k := k + 1) hn (by omega) (by omega))
          have HLN := Lib.hid (fun (m : List Nat) (h : m ∈ ordTo (okPic c F W H P) n d l (k + 1)) => ordTo_len h)
          clear HH0 hin hl3
          go_wp2_with (first | (go_at_call 54; refine (HH.out _ (HL.out.below (by repeat' (first | with_reducible exact Below.refl _ _ | with_reducible assumption | with_reducible refine Below.drew ?_ | with_reducible refine Below.drewN ?_ _ | with_reducible refine Below.alloc ?_ ?_ _ | with_reducible refine Below.setCell ?_ ?_ _ | with_reducible refine Below.setRow ?_ ?_ _ | with_reducible refine below_step (by assumption) ?_ ?_ | (show (_ : Nat) ≤ _; first | omega | (simp <;> omega)))) (Nat.le_refl _))).mono ?_; rintro e w1 ⟨rfl, hb1⟩; have r_hb1 := keep_rowA hb1; have f_hb1 := keep_frA hb1; have s_hb1 := hb1.size; (try simp only [World.size_alloc, World.size_setCell, setRow_size, World.size_drew, size_drewNm] at r_hb1 f_hb1 s_hb1)) | (go_at_call 55; refine (HOWN.out _ (HL.out.below (by repeat' (first | with_reducible exact Below.refl _ _ | with_reducible assumption | with_reducible refine Below.drew ?_ | with_reducible refine Below.drewN ?_ _ | with_reducible refine Below.alloc ?_ ?_ _ | with_reducible refine Below.setCell ?_ ?_ _ | with_reducible refine Below.setRow ?_ ?_ _ | with_reducible refine below_step (by assumption) ?_ ?_ | (show (_ : Nat) ≤ _; first | omega | (simp <;> omega)))) (Nat.le_refl _))).mono ?_; rintro e w2 ⟨v2, rfl, hown2, hb2⟩; have hsz2 := hb2.size; have HO2 := Lib.hid hown2; clear hown2; have r_hb2 := keep_rowA hb2; have f_hb2 := keep_frA hb2; have s_hb2 := hb2.size; (try simp only [World.size_alloc, World.size_setCell, setRow_size, World.size_drew, size_drewNm] at r_hb2 f_hb2 s_hb2)) | (at_builtin; refine wpList_append_own _ rfl _ _ 49 rfl w1.heap.size 2 i1 z1 1 8 Tryz.underlying49 HI1.out.1 HI1.out.2.1 HI1.out.2.2.1 HI1.out.2.2.2.1 HI1.out.2.2.2.2 (by decide) _ _ _ rfl (HO2.out.alloc _) ⟨w2.heap.size, 0, none⟩ 1 1 [.int .i64 (k : Int)] rfl rfl ?c1 ?c2 ?c3 ?c4 ?c5 ?_))
          case c1 =>
            intro j u hj
            match j, hj with
            | 0, hj => simp at hj; subst hj; simp [Addr.add]
          case c2 => intro u hu; simp at hu; subst hu; rfl
          case c3 => unfold maxLen; omega
          case c4 => omega
          case c5 => simp; omega
          intro v3 w3 hown3 hgrow3 _
          have hs1 := hb1.size
          have hbg : Below w1.heap.size w1 w3 := below_grown (show Below w1.heap.size w1 (w2.alloc (.cells #[.int .i64 (k : Int)] 2)) by repeat' (first | with_reducible exact Below.refl _ _ | with_reducible assumption | with_reducible refine Below.drew ?_ | with_reducible refine Below.drewN ?_ _ | with_reducible refine Below.alloc ?_ ?_ _ | with_reducible refine Below.setCell ?_ ?_ _ | with_reducible refine Below.setRow ?_ ?_ _ | with_reducible refine below_step (by assumption) ?_ ?_ | (show (_ : Nat) ≤ _; first | omega | (simp <;> omega)))) hgrow3 (owns_base HO2.out) (by simp; omega)
          rw [← nlV_snoc] at hown3
          have HK3 := Lib.hid (own_nlV hl2 hown3)
          have hb3 : Below wr.heap.size wr w3 := hb1.trans (hbg.mono hs1)
          have hs3 := hb3.size
          have hpr3 := (keep_row hb3 hpw).trans hpr
          clear hown3 hgrow3 HO2
          go_wp2_with (first | (go_at_call 29; refine (HRC.out _ w1.heap.size _ (by omega) (by omega) hpr3 (by omega) (HM.out.below (by repeat' (first | with_reducible exact Below.refl _ _ | with_reducible assumption | with_reducible refine Below.drew ?_ | with_reducible refine Below.drewN ?_ _ | with_reducible refine Below.alloc ?_ ?_ _ | with_reducible refine Below.setCell ?_ ?_ _ | with_reducible refine Below.setRow ?_ ?_ _ | with_reducible refine below_step (by assumption) ?_ ?_ | (show (_ : Nat) ≤ _; first | omega | (simp <;> omega)))) (Nat.le_refl _)) (HPV.out.below (by repeat' (first | with_reducible exact Below.refl _ _ | with_reducible assumption | with_reducible refine Below.drew ?_ | with_reducible refine Below.drewN ?_ _ | with_reducible refine Below.alloc ?_ ?_ _ | with_reducible refine Below.setCell ?_ ?_ _ | with_reducible refine Below.setRow ?_ ?_ _ | with_reducible refine below_step (by assumption) ?_ ?_ | (show (_ : Nat) ≤ _; first | omega | (simp <;> omega)))) (Nat.le_refl _)) (hl2 ▸ HK3.out)).mono ?_; rintro e w4 ⟨v4, E, rfl, hown4, hod4, hodw4, hb4⟩; have r_hb4 := keep_rowA hb4; have f_hb4 := keep_frA hb4; have s_hb4 := hb4.size; (try simp only [World.size_alloc, World.size_setCell, setRow_size, World.size_drew, size_drewNm] at r_hb4 f_hb4 s_hb4)) | (at_builtin; generalize hZZ : wpList _ _ _ _ _ _ = ZZ))
          subst hZZ
          have hb5 : Below wr.heap.size wr w4 := hb3.trans (hb4.mono hs3)
          have hs5 := hb5.size
          have hodn : odL (D ++ E) = ordTo (okPic c F W H P) n d l (k + 1) := by rw [odL_app, HD.out, hod4, HN.out]
          have hlen : D.length + E.length ≤ 300000 := by
            have := HFEW.out
            rw [← hodn, odL_len, List.length_append] at this
            exact this
          have hpos := od_pos hodn (fun x hx => HLN.out x hx) (by omega)
          obtain ⟨g2, c2, w5, hrun, hown5, hodw5, hc5, hg5, hb6⟩ := append_od (P := Tryz.prog) w4 w.heap.size w3.heap.size B 61 61 49 i0 z0 24 Tryz.underlying61 HI.out.1 HI.out.2.1 HI.out.2.2.1 HI.out.2.2.2.1 HI.out.2.2.2.2 (by decide) (owns_below HO.out hb5) HC.out (HW.out.below hb5) hodw4 (fun q hq => hpos q (List.mem_append_left _ hq)) (fun q hq => hpos q (List.mem_append_right _ hq)) hown4 (by omega) (by have := hb.size; omega)
          have hb7 := hb6 w.heap.size w (hb.trans (hb5.mono hb.size)) (Nat.le_refl _)
          have HX := Lib.hid hown5
          have HY := Lib.hid hodw5
          have HZ := Lib.hid hodn
          have HC5 := Lib.hid hc5
          clear hown5 hodw5 hodn hb6 hown4 hod4 hodw4 hpos hc5
          refine Lib.wpList_append_run _ rfl _ _ _ _ rfl _ _ rfl rfl _ _ hrun ?_
          go_wp2
          go_roundw
          case rel => first | exact ⟨k + 1, g2, c2, D ++ E, by omega, by go_num, by rw [List.length_append], by rw [List.length_append]; exact HX.out, HZ.out, HY.out, by rw [List.length_append]; exact HC5.out, hb7⟩ | ((repeat (with_reducible apply Exists.intro)); refine And.intro ?_ ?_; rotate_left; (focus ((repeat' (with_reducible apply And.intro)) <;> rfl)); exact ⟨k + 1, g2, c2, D ++ E, by omega, by go_num, by rw [List.length_append], by rw [List.length_append]; exact HX.out, HZ.out, HY.out, by rw [List.length_append]; exact HC5.out, hb7⟩)
          case measure => simp [intOf]; omega
      · have hke : k = n := by omega
        subst hke
        go_wp2
        go_ret
        exact ⟨_, D, rfl, HO.out, HD.out, HW.out, by repeat' (first | with_reducible exact Below.refl _ _ | with_reducible assumption | with_reducible refine Below.drew ?_ | with_reducible refine Below.drewN ?_ _ | with_reducible refine Below.alloc ?_ ?_ _ | with_reducible refine Below.setCell ?_ ?_ _ | with_reducible refine Below.setRow ?_ ?_ _ | with_reducible refine below_step (by assumption) ?_ ?_ | (show (_ : Nat) ≤ _; first | omega | (simp <;> omega)))⟩
set_option maxHeartbeats 8000000 in
theorem orders_any (p : Nat) (c : Nat → Int) (hfc : FitSheet c) (W H : Nat) (hW : c 0 = W) (hH : c 1 = H) (W0 : 0 < W) (W8 : W ≤ 8) (H0 : 0 < H) (H8 : H ≤ 8) (v : Value) (n b : Nat) (F : Nat → Mk) (hn : n ≤ 6) (hF : ∀ k, k < n → MkLay (F k)) (pv : Value) (bp : Nat) (P : List (List UInt8)) (hP : P.length ≤ 1048576) :
    ∀ (d : Nat) (l : List Nat) (lv : Value) (bl B : Nat) (w : World), l.length + d = n → B ≤ bl → B ≤ w.heap.size → (∀ i ∈ l, i < n) → rowOf w p = kc sk 266 c → p < w.heap.size → OwnM w b v n F → OwnT w bp pv P → OwnK .i64 1 w bl lv l.length (nl l) → MxW w →
    Calls Tryz.prog 36 #[.pointer (some ⟨p, 0, none⟩), v, pv, lv] w fun e w' => ∃ (v' : Value) (D : Od), e = .returned v' ∧ w'.ownsRow w.heap.size 49 1 v' D.length (odV D) ∧ odL D = ordL (okPic c F W H P) n d l ∧ OdW w' B D ∧ Below w.heap.size w w' := by
  intro d
  induction d with
  | zero =>
    intro l lv bl B w hd hB1 hB2 hli hr hp hm hpv hlv hmx
    have hq : ((l.length : Int) == (n : Int)) = true := by rw [beq_iff_eq]; omega
    have hq2 : (l.length : Int) = (n : Int) := by omega
    have hPT0 := fun w2 h1 h2 h3 h4 h5 => paint_any p c hfc W H hW hH W0 W8 H0 H8 v n b F (by omega) hF lv bl l (by omega) hli w2 h1 h2 h3 h4 h5
    have HPT := Lib.hid hPT0
    have hln : (linB (chP c (pntG F l)) W H).length = H := linB_len _ _ _
    have HSM0 := fun v1 v2 b1 b2 w h1 h2 => equal_strs_any v1 v2 b1 b2 (linB (chP c (pntG F l)) W H) P (by omega) hP w h1 h2
    rw [show eqL (linB (chP c (pntG F l)) W H) P = okPic c F W H P l from rfl] at HSM0
    have HST := Lib.hid (fun (w2 : World) (B : Nat) (v2 : Value) (h : w2.ownsRow B 9 1 v2 H (strV (linB (chP c (pntG F l)) W H))) => OwnT.of (L := linB (chP c (pntG F l)) W H) (by rw [hln]; exact h))
    have HM := Lib.hid hm
    have HL := Lib.hid hlv
    have HPV := Lib.hid hpv
    have HE := Lib.hid (show ordL (okPic c F W H P) n 0 l = if okPic c F W H P l = true then [l] else [] from rfl)
    obtain ⟨i0, z0, hi0, hz0, hs0, hb0, hc0⟩ := i64s_info
    have HI := Lib.hid (And.intro hi0 (And.intro hz0 (And.intro hs0 (And.intro hb0 hc0))))
    obtain ⟨am, cm, rfl⟩ := hm.1.len
    obtain ⟨al, cl, rfl⟩ := hlv.len
    clear hPT0 hln hm hlv hpv hi0 hz0 hs0 hb0 hc0
    generalize okPic c F W H P l = z at *
    have HSM := Lib.hid HSM0
    clear HSM0
    cases z with
    | true =>
      go_enter Tryz.func36, Tryz.ntmps36
      go_wp2_with (first | (go_at_call 68; refine (HPT.out _ (by (go_simp <;> (intros; omega))) (by first | omega | (simp <;> omega)) (HM.out.below (by repeat' (first | with_reducible exact Below.refl _ _ | with_reducible assumption | with_reducible refine Below.drew ?_ | with_reducible refine Below.drewN ?_ _ | with_reducible refine Below.alloc ?_ ?_ _ | with_reducible refine Below.setCell ?_ ?_ _ | with_reducible refine Below.setRow ?_ ?_ _ | with_reducible refine below_step (by assumption) ?_ ?_ | (show (_ : Nat) ≤ _; first | omega | (simp <;> omega)))) (Nat.le_refl _)) (HL.out.below (by repeat' (first | with_reducible exact Below.refl _ _ | with_reducible assumption | with_reducible refine Below.drew ?_ | with_reducible refine Below.drewN ?_ _ | with_reducible refine Below.alloc ?_ ?_ _ | with_reducible refine Below.setCell ?_ ?_ _ | with_reducible refine Below.setRow ?_ ?_ _ | with_reducible refine below_step (by assumption) ?_ ?_ | (show (_ : Nat) ≤ _; first | omega | (simp <;> omega)))) (Nat.le_refl _)) (hmx.below (by repeat' (first | with_reducible exact Below.refl _ _ | with_reducible assumption | with_reducible refine Below.drew ?_ | with_reducible refine Below.drewN ?_ _ | with_reducible refine Below.alloc ?_ ?_ _ | with_reducible refine Below.setCell ?_ ?_ _ | with_reducible refine Below.setRow ?_ ?_ _ | with_reducible refine below_step (by assumption) ?_ ?_ | (show (_ : Nat) ≤ _; first | omega | (simp <;> omega)))))).mono ?_; rintro e w1 ⟨v1, rfl, hown1, hb1⟩; have H1 := Lib.hid (HST.out _ _ _ hown1); clear hown1; have r_hb1 := keep_rowA hb1; have f_hb1 := keep_frA hb1; have s_hb1 := hb1.size; (try simp only [World.size_alloc, World.size_setCell, setRow_size, World.size_drew, size_drewNm] at r_hb1 f_hb1 s_hb1)) | (go_at_call 67; refine (HSM.out _ _ _ _ _ H1.out (HPV.out.below (by repeat' (first | with_reducible exact Below.refl _ _ | with_reducible assumption | with_reducible refine Below.drew ?_ | with_reducible refine Below.drewN ?_ _ | with_reducible refine Below.alloc ?_ ?_ _ | with_reducible refine Below.setCell ?_ ?_ _ | with_reducible refine Below.setRow ?_ ?_ _ | with_reducible refine below_step (by assumption) ?_ ?_ | (show (_ : Nat) ≤ _; first | omega | (simp <;> omega)))) (Nat.le_refl _))).mono ?_; rintro e w2 ⟨rfl, hb2⟩; have r_hb2 := keep_rowA hb2; have f_hb2 := keep_frA hb2; have s_hb2 := hb2.size; (try simp only [World.size_alloc, World.size_setCell, setRow_size, World.size_drew, size_drewNm] at r_hb2 f_hb2 s_hb2)))
      go_ret
      exact ⟨_, [(.slice al l.length cl, l)], rfl, owns_downP (owns_madeP w2 _ [.slice al l.length cl] (by simp)) (by have := hb1.size; have := hb2.size; omega), by rw [HE.out]; rfl, (fun q hq => by rw [List.mem_singleton.1 hq]; exact (HL.out.below (by repeat' (first | with_reducible exact Below.refl _ _ | with_reducible assumption | with_reducible refine Below.drew ?_ | with_reducible refine Below.drewN ?_ _ | with_reducible refine Below.alloc ?_ ?_ _ | with_reducible refine Below.setCell ?_ ?_ _ | with_reducible refine Below.setRow ?_ ?_ _ | with_reducible refine below_step (by assumption) ?_ ?_ | (show (_ : Nat) ≤ _; first | omega | (simp <;> omega)))) (Nat.le_refl _)).down hB1), by repeat' (first | with_reducible exact Below.refl _ _ | with_reducible assumption | with_reducible refine Below.drew ?_ | with_reducible refine Below.drewN ?_ _ | with_reducible refine Below.alloc ?_ ?_ _ | with_reducible refine Below.setCell ?_ ?_ _ | with_reducible refine Below.setRow ?_ ?_ _ | with_reducible refine below_step (by assumption) ?_ ?_ | (show (_ : Nat) ≤ _; first | omega | (simp <;> omega)))⟩
    | false =>
      go_enter Tryz.func36, Tryz.ntmps36
      go_wp2_with (first | (go_at_call 68; refine (HPT.out _ (by (go_simp <;> (intros; omega))) (by first | omega | (simp <;> omega)) (HM.out.below (by repeat' (first | with_reducible exact Below.refl _ _ | with_reducible assumption | with_reducible refine Below.drew ?_ | with_reducible refine Below.drewN ?_ _ | with_reducible refine Below.alloc ?_ ?_ _ | with_reducible refine Below.setCell ?_ ?_ _ | with_reducible refine Below.setRow ?_ ?_ _ | with_reducible refine below_step (by assumption) ?_ ?_ | (show (_ : Nat) ≤ _; first | omega | (simp <;> omega)))) (Nat.le_refl _)) (HL.out.below (by repeat' (first | with_reducible exact Below.refl _ _ | with_reducible assumption | with_reducible refine Below.drew ?_ | with_reducible refine Below.drewN ?_ _ | with_reducible refine Below.alloc ?_ ?_ _ | with_reducible refine Below.setCell ?_ ?_ _ | with_reducible refine Below.setRow ?_ ?_ _ | with_reducible refine below_step (by assumption) ?_ ?_ | (show (_ : Nat) ≤ _; first | omega | (simp <;> omega)))) (Nat.le_refl _)) (hmx.below (by repeat' (first | with_reducible exact Below.refl _ _ | with_reducible assumption | with_reducible refine Below.drew ?_ | with_reducible refine Below.drewN ?_ _ | with_reducible refine Below.alloc ?_ ?_ _ | with_reducible refine Below.setCell ?_ ?_ _ | with_reducible refine Below.setRow ?_ ?_ _ | with_reducible refine below_step (by assumption) ?_ ?_ | (show (_ : Nat) ≤ _; first | omega | (simp <;> omega)))))).mono ?_; rintro e w1 ⟨v1, rfl, hown1, hb1⟩; have H1 := Lib.hid (HST.out _ _ _ hown1); clear hown1; have r_hb1 := keep_rowA hb1; have f_hb1 := keep_frA hb1; have s_hb1 := hb1.size; (try simp only [World.size_alloc, World.size_setCell, setRow_size, World.size_drew, size_drewNm] at r_hb1 f_hb1 s_hb1)) | (go_at_call 67; refine (HSM.out _ _ _ _ _ H1.out (HPV.out.below (by repeat' (first | with_reducible exact Below.refl _ _ | with_reducible assumption | with_reducible refine Below.drew ?_ | with_reducible refine Below.drewN ?_ _ | with_reducible refine Below.alloc ?_ ?_ _ | with_reducible refine Below.setCell ?_ ?_ _ | with_reducible refine Below.setRow ?_ ?_ _ | with_reducible refine below_step (by assumption) ?_ ?_ | (show (_ : Nat) ≤ _; first | omega | (simp <;> omega)))) (Nat.le_refl _))).mono ?_; rintro e w2 ⟨rfl, hb2⟩; have r_hb2 := keep_rowA hb2; have f_hb2 := keep_frA hb2; have s_hb2 := hb2.size; (try simp only [World.size_alloc, World.size_setCell, setRow_size, World.size_drew, size_drewNm] at r_hb2 f_hb2 s_hb2)))
      go_ret
      exact ⟨_, [], rfl, World.ownsRow_nil _ _ _ _, by rw [HE.out]; rfl, (fun q hq => by cases hq), by repeat' (first | with_reducible exact Below.refl _ _ | with_reducible assumption | with_reducible refine Below.drew ?_ | with_reducible refine Below.drewN ?_ _ | with_reducible refine Below.alloc ?_ ?_ _ | with_reducible refine Below.setCell ?_ ?_ _ | with_reducible refine Below.setRow ?_ ?_ _ | with_reducible refine below_step (by assumption) ?_ ?_ | (show (_ : Nat) ≤ _; first | omega | (simp <;> omega)))⟩
  | succ d ih =>
    intro l lv bl B w hd hB1 hB2 hli hr hp hm hpv hlv hmx
    have hq : ((l.length : Int) == (n : Int)) = false := by rw [beq_eq_false_iff_ne]; omega
    have hq2 : ¬ (l.length : Int) = (n : Int) := by omega
    have HIH := Lib.hid ih
    have HM := Lib.hid hm
    have HL := Lib.hid hlv
    have HPV := Lib.hid hpv
    have HLI := Lib.hid hli
    have hl20 : l.length ≤ 1048576 := by omega
    have HHAS := Lib.hid (fun (i : Nat) w h => contains_i64 lv bl l hl20 i w h)
    have HOWN := Lib.hid (fun w h => clone_i64 lv bl l hl20 w h)
    have HSZ := Lib.hid (fun w h => size_marks v b n F w h)
    obtain ⟨i0, z0, hi0, hz0, hs0, hb0, hc0⟩ := i64s_info
    have HI := Lib.hid (And.intro hi0 (And.intro hz0 (And.intro hs0 (And.intro hb0 hc0))))
    obtain ⟨i1, z1, hi1, hz1, hs1, hb1, hc1⟩ := i64_info
    have HI1 := Lib.hid (And.intro hi1 (And.intro hz1 (And.intro hs1 (And.intro hb1 hc1))))
    obtain ⟨am, cm, rfl⟩ := hm.1.len
    obtain ⟨al, cl, rfl⟩ := hlv.len
    clear ih hm hlv hpv hli hi0 hz0 hs0 hb0 hc0 hi1 hz1 hs1 hb1 hc1
    rw [ordL_all]
    go_enter Tryz.func36, Tryz.ntmps36
    go_wp2_with (go_at_call 41; refine (HSZ.out _ (HM.out.below (by repeat' (first | with_reducible exact Below.refl _ _ | with_reducible assumption | with_reducible refine Below.drew ?_ | with_reducible refine Below.drewN ?_ _ | with_reducible refine Below.alloc ?_ ?_ _ | with_reducible refine Below.setCell ?_ ?_ _ | with_reducible refine Below.setRow ?_ ?_ _ | with_reducible refine below_step (by assumption) ?_ ?_ | (show (_ : Nat) ≤ _; first | omega | (simp <;> omega)))) (Nat.le_refl _))).mono ?_; rintro e ws ⟨rfl, rfl⟩)
    go_loopw [27, 9] (fun i u wr => ∃ (k g cap : Nat) (D : Od), k ≤ n ∧ i = .int .i64 k ∧ u = .slice (some ⟨g, 0, none⟩) D.length cap ∧ wr.ownsRow w.heap.size 49 1 (.slice (some ⟨g, 0, none⟩) D.length cap) D.length (odV D) ∧ odL D = ordTo (okPic c F W H P) n d l k ∧ OdW wr B D ∧ (D.length = 0 → cap = 0) ∧ Below w.heap.size w wr) (fun i u wr => n + 1 - (intOf i).toNat)
    case atStart => exact ⟨0, w.heap.size, 0, [], by omega, rfl, rfl, owns_empty1 _ _, rfl, (fun q hq => by cases hq), fun _ => rfl, by repeat' (first | with_reducible exact Below.refl _ _ | with_reducible assumption | with_reducible refine Below.drew ?_ | with_reducible refine Below.drewN ?_ _ | with_reducible refine Below.alloc ?_ ?_ _ | with_reducible refine Below.setCell ?_ ?_ _ | with_reducible refine Below.setRow ?_ ?_ _ | with_reducible refine below_step (by assumption) ?_ ?_ | (show (_ : Nat) ≤ _; first | omega | (simp <;> omega)))⟩
    case round =>
      obtain ⟨k, g, cap, D, hk, rfl, rfl, hown, hod, hodw, hc0, hb⟩ := hrel
      have HO := Lib.hid hown
      have HD := Lib.hid hod
      have HW := Lib.hid hodw
      have HC := Lib.hid hc0
      have hpr := (keep_row hb hp).trans hr
      have hszb := hb.size
      have hpw : p < wr.heap.size := by omega
      clear hown hod hodw hc0
      by_cases hlt : k < n
      · have hlt2 : (k : Int) < (n : Int) := by omega
        have hw1 : IntKind.i64.wrap ((k : Int) + 1) = ((k + 1 : Nat) : Int) := by rw [IntWalk.i64_in _ (by omega)]; rfl
        have HH0 := HHAS.out k
        by_cases hin : k ∈ l
        · rw [decide_eq_true hin] at HH0
          have HN := Lib.hid (ordTo_in (ok := okPic c F W H P) (n := n) (d := d) hin)
          have HH := Lib.hid HH0
          clear HH0 hin
          go_wp2_with (go_at_call 69; refine (HH.out _ (HL.out.below (by repeat' (first | with_reducible exact Below.refl _ _ | with_reducible assumption | with_reducible refine Below.drew ?_ | with_reducible refine Below.drewN ?_ _ | with_reducible refine Below.alloc ?_ ?_ _ | with_reducible refine Below.setCell ?_ ?_ _ | with_reducible refine Below.setRow ?_ ?_ _ | with_reducible refine below_step (by assumption) ?_ ?_ | (show (_ : Nat) ≤ _; first | omega | (simp <;> omega)))) (Nat.le_refl _))).mono ?_; rintro e w1 ⟨rfl, hb1⟩; have r_hb1 := keep_rowA hb1; have f_hb1 := keep_frA hb1; have s_hb1 := hb1.size; (try simp only [World.size_alloc, World.size_setCell, setRow_size, World.size_drew, size_drewNm] at r_hb1 f_hb1 s_hb1))
          go_roundw
          case rel => first | exact ⟨k + 1, g, cap, D, by omega, by go_num, rfl, owns_below HO.out (by repeat' (first | with_reducible exact Below.refl _ _ | with_reducible assumption | with_reducible refine Below.drew ?_ | with_reducible refine Below.drewN ?_ _ | with_reducible refine Below.alloc ?_ ?_ _ | with_reducible refine Below.setCell ?_ ?_ _ | with_reducible refine Below.setRow ?_ ?_ _ | with_reducible refine below_step (by assumption) ?_ ?_ | (show (_ : Nat) ≤ _; first | omega | (simp <;> omega)))), by rw [HN.out]; exact HD.out, HW.out.below (by repeat' (first | with_reducible exact Below.refl _ _ | with_reducible assumption | with_reducible refine Below.drew ?_ | with_reducible refine Below.drewN ?_ _ | with_reducible refine Below.alloc ?_ ?_ _ | with_reducible refine Below.setCell ?_ ?_ _ | with_reducible refine Below.setRow ?_ ?_ _ | with_reducible refine below_step (by assumption) ?_ ?_ | (show (_ : Nat) ≤ _; first | omega | (simp <;> omega)))), HC.out, by repeat' (first | with_reducible exact Below.refl _ _ | with_reducible assumption | with_reducible refine Below.drew ?_ | with_reducible refine Below.drewN ?_ _ | with_reducible refine Below.alloc ?_ ?_ _ | with_reducible refine Below.setCell ?_ ?_ _ | with_reducible refine Below.setRow ?_ ?_ _ | with_reducible refine below_step (by assumption) ?_ ?_ | (show (_ : Nat) ≤ _; first | omega | (simp <;> omega)))⟩ | ((repeat (with_reducible apply Exists.intro)); refine And.intro ?_ ?_; rotate_left; (focus ((repeat' (with_reducible apply And.intro)) <;> rfl)); exact ⟨k + 1, g, cap, D, by omega, by go_num, rfl, owns_below HO.out (by repeat' (first | with_reducible exact Below.refl _ _ | with_reducible assumption | with_reducible refine Below.drew ?_ | with_reducible refine Below.drewN ?_ _ | with_reducible refine Below.alloc ?_ ?_ _ | with_reducible refine Below.setCell ?_ ?_ _ | with_reducible refine Below.setRow ?_ ?_ _ | with_reducible refine below_step (by assumption) ?_ ?_ | (show (_ : Nat) ≤ _; first | omega | (simp <;> omega)))), by rw [HN.out]; exact HD.out, HW.out.below (by repeat' (first | with_reducible exact Below.refl _ _ | with_reducible assumption | with_reducible refine Below.drew ?_ | with_reducible refine Below.drewN ?_ _ | with_reducible refine Below.alloc ?_ ?_ _ | with_reducible refine Below.setCell ?_ ?_ _ | with_reducible refine Below.setRow ?_ ?_ _ | with_reducible refine below_step (by assumption) ?_ ?_ | (show (_ : Nat) ≤ _; first | omega | (simp <;> omega)))), HC.out, by repeat' (first | with_reducible exact Below.refl _ _ | with_reducible assumption | with_reducible refine Below.drew ?_ | with_reducible refine Below.drewN ?_ _ | with_reducible refine Below.alloc ?_ ?_ _ | with_reducible refine Below.setCell ?_ ?_ _ | with_reducible refine Below.setRow ?_ ?_ _ | with_reducible refine below_step (by assumption) ?_ ?_ | (show (_ : Nat) ≤ _; first | omega | (simp <;> omega)))⟩)
          case measure => simp [intOf]; omega
        · rw [decide_eq_false hin] at HH0
          have HN := Lib.hid (ordTo_out (ok := okPic c F W H P) (n := n) (d := d) hin)
          have HH := Lib.hid HH0
          have hl2 : (l ++ [k]).length = l.length + 1 := by simp
          have hl3 : ∀ i ∈ l ++ [k], i < n := fun i hi => by
            rcases List.mem_append.1 hi with h | h
            · exact HLI.out i h
            · rw [List.mem_singleton.1 h]; exact hlt
          have HRC := Lib.hid (fun lv bl w h1 h2 => HIH.out (l ++ [k]) lv bl B w (by omega) h1 h2 hl3)
          have HFEW := Lib.hid (ordTo_few (ok := okPic c F W H P) (n := n) (d := d) (l := l) (k := k + 1) hn (by omega) (by omega))
          have HLN := Lib.hid (fun (m : List Nat) (h : m ∈ ordTo (okPic c F W H P) n d l (k + 1)) => ordTo_len h)
          clear HH0 hin hl3
          go_wp2_with (first | (go_at_call 69; refine (HH.out _ (HL.out.below (by repeat' (first | with_reducible exact Below.refl _ _ | with_reducible assumption | with_reducible refine Below.drew ?_ | with_reducible refine Below.drewN ?_ _ | with_reducible refine Below.alloc ?_ ?_ _ | with_reducible refine Below.setCell ?_ ?_ _ | with_reducible refine Below.setRow ?_ ?_ _ | with_reducible refine below_step (by assumption) ?_ ?_ | (show (_ : Nat) ≤ _; first | omega | (simp <;> omega)))) (Nat.le_refl _))).mono ?_; rintro e w1 ⟨rfl, hb1⟩; have r_hb1 := keep_rowA hb1; have f_hb1 := keep_frA hb1; have s_hb1 := hb1.size; (try simp only [World.size_alloc, World.size_setCell, setRow_size, World.size_drew, size_drewNm] at r_hb1 f_hb1 s_hb1)) | (go_at_call 70; refine (HOWN.out _ (HL.out.below (by repeat' (first | with_reducible exact Below.refl _ _ | with_reducible assumption | with_reducible refine Below.drew ?_ | with_reducible refine Below.drewN ?_ _ | with_reducible refine Below.alloc ?_ ?_ _ | with_reducible refine Below.setCell ?_ ?_ _ | with_reducible refine Below.setRow ?_ ?_ _ | with_reducible refine below_step (by assumption) ?_ ?_ | (show (_ : Nat) ≤ _; first | omega | (simp <;> omega)))) (Nat.le_refl _))).mono ?_; rintro e w2 ⟨v2, rfl, hown2, hb2⟩; have hsz2 := hb2.size; have HO2 := Lib.hid hown2; clear hown2; have r_hb2 := keep_rowA hb2; have f_hb2 := keep_frA hb2; have s_hb2 := hb2.size; (try simp only [World.size_alloc, World.size_setCell, setRow_size, World.size_drew, size_drewNm] at r_hb2 f_hb2 s_hb2)) | (at_builtin; refine wpList_append_own _ rfl _ _ 49 rfl w1.heap.size 2 i1 z1 1 8 Tryz.underlying49 HI1.out.1 HI1.out.2.1 HI1.out.2.2.1 HI1.out.2.2.2.1 HI1.out.2.2.2.2 (by decide) _ _ _ rfl (HO2.out.alloc _) ⟨w2.heap.size, 0, none⟩ 1 1 [.int .i64 (k : Int)] rfl rfl ?c1 ?c2 ?c3 ?c4 ?c5 ?_))
          case c1 =>
            intro j u hj
            match j, hj with
            | 0, hj => simp at hj; subst hj; simp [Addr.add]
          case c2 => intro u hu; simp at hu; subst hu; rfl
          case c3 => unfold maxLen; omega
          case c4 => omega
          case c5 => simp; omega
          intro v3 w3 hown3 hgrow3 _
          have hs1 := hb1.size
          have hbg : Below w1.heap.size w1 w3 := below_grown (show Below w1.heap.size w1 (w2.alloc (.cells #[.int .i64 (k : Int)] 2)) by repeat' (first | with_reducible exact Below.refl _ _ | with_reducible assumption | with_reducible refine Below.drew ?_ | with_reducible refine Below.drewN ?_ _ | with_reducible refine Below.alloc ?_ ?_ _ | with_reducible refine Below.setCell ?_ ?_ _ | with_reducible refine Below.setRow ?_ ?_ _ | with_reducible refine below_step (by assumption) ?_ ?_ | (show (_ : Nat) ≤ _; first | omega | (simp <;> omega)))) hgrow3 (owns_base HO2.out) (by simp; omega)
          rw [← nlV_snoc] at hown3
          have HK3 := Lib.hid (own_nlV hl2 hown3)
          have hb3 : Below wr.heap.size wr w3 := hb1.trans (hbg.mono hs1)
          have hs3 := hb3.size
          have hpr3 := (keep_row hb3 hpw).trans hpr
          clear hown3 hgrow3 HO2
          go_wp2_with (first | (go_at_call 36; refine (HRC.out _ w1.heap.size _ (by omega) (by omega) hpr3 (by omega) (HM.out.below (by repeat' (first | with_reducible exact Below.refl _ _ | with_reducible assumption | with_reducible refine Below.drew ?_ | with_reducible refine Below.drewN ?_ _ | with_reducible refine Below.alloc ?_ ?_ _ | with_reducible refine Below.setCell ?_ ?_ _ | with_reducible refine Below.setRow ?_ ?_ _ | with_reducible refine below_step (by assumption) ?_ ?_ | (show (_ : Nat) ≤ _; first | omega | (simp <;> omega)))) (Nat.le_refl _)) (HPV.out.below (by repeat' (first | with_reducible exact Below.refl _ _ | with_reducible assumption | with_reducible refine Below.drew ?_ | with_reducible refine Below.drewN ?_ _ | with_reducible refine Below.alloc ?_ ?_ _ | with_reducible refine Below.setCell ?_ ?_ _ | with_reducible refine Below.setRow ?_ ?_ _ | with_reducible refine below_step (by assumption) ?_ ?_ | (show (_ : Nat) ≤ _; first | omega | (simp <;> omega)))) (Nat.le_refl _)) (hl2 ▸ HK3.out) (hmx.below (by repeat' (first | with_reducible exact Below.refl _ _ | with_reducible assumption | with_reducible refine Below.drew ?_ | with_reducible refine Below.drewN ?_ _ | with_reducible refine Below.alloc ?_ ?_ _ | with_reducible refine Below.setCell ?_ ?_ _ | with_reducible refine Below.setRow ?_ ?_ _ | with_reducible refine below_step (by assumption) ?_ ?_ | (show (_ : Nat) ≤ _; first | omega | (simp <;> omega)))))).mono ?_; rintro e w4 ⟨v4, E, rfl, hown4, hod4, hodw4, hb4⟩; have r_hb4 := keep_rowA hb4; have f_hb4 := keep_frA hb4; have s_hb4 := hb4.size; (try simp only [World.size_alloc, World.size_setCell, setRow_size, World.size_drew, size_drewNm] at r_hb4 f_hb4 s_hb4)) | (at_builtin; generalize hZZ : wpList _ _ _ _ _ _ = ZZ))
          subst hZZ
          have hb5 : Below wr.heap.size wr w4 := hb3.trans (hb4.mono hs3)
          have hs5 := hb5.size
          have hodn : odL (D ++ E) = ordTo (okPic c F W H P) n d l (k + 1) := by rw [odL_app, HD.out, hod4, HN.out]
          have hlen : D.length + E.length ≤ 300000 := by
            have := HFEW.out
            rw [← hodn, odL_len, List.length_append] at this
            exact this
          have hpos := od_pos hodn (fun x hx => HLN.out x hx) (by omega)
          obtain ⟨g2, c2, w5, hrun, hown5, hodw5, hc5, hg5, hb6⟩ := append_od (P := Tryz.prog) w4 w.heap.size w3.heap.size B 61 61 49 i0 z0 24 Tryz.underlying61 HI.out.1 HI.out.2.1 HI.out.2.2.1 HI.out.2.2.2.1 HI.out.2.2.2.2 (by decide) (owns_below HO.out hb5) HC.out (HW.out.below hb5) hodw4 (fun q hq => hpos q (List.mem_append_left _ hq)) (fun q hq => hpos q (List.mem_append_right _ hq)) hown4 (by omega) (by have := hb.size; omega)
          have hb7 := hb6 w.heap.size w (hb.trans (hb5.mono hb.size)) (Nat.le_refl _)
          have HX := Lib.hid hown5
          have HY := Lib.hid hodw5
          have HZ := Lib.hid hodn
          have HC5 := Lib.hid hc5
          clear hown5 hodw5 hodn hb6 hown4 hod4 hodw4 hpos hc5
          refine Lib.wpList_append_run _ rfl _ _ _ _ rfl _ _ rfl rfl _ _ hrun ?_
          go_wp2
          go_roundw
          case rel => first | exact ⟨k + 1, g2, c2, D ++ E, by omega, by go_num, by rw [List.length_append], by rw [List.length_append]; exact HX.out, HZ.out, HY.out, by rw [List.length_append]; exact HC5.out, hb7⟩ | ((repeat (with_reducible apply Exists.intro)); refine And.intro ?_ ?_; rotate_left; (focus ((repeat' (with_reducible apply And.intro)) <;> rfl)); exact ⟨k + 1, g2, c2, D ++ E, by omega, by go_num, by rw [List.length_append], by rw [List.length_append]; exact HX.out, HZ.out, HY.out, by rw [List.length_append]; exact HC5.out, hb7⟩)
          case measure => simp [intOf]; omega
      · have hke : k = n := by omega
        subst hke
        go_wp2
        go_ret
        exact ⟨_, D, rfl, HO.out, HD.out, HW.out, by repeat' (first | with_reducible exact Below.refl _ _ | with_reducible assumption | with_reducible refine Below.drew ?_ | with_reducible refine Below.drewN ?_ _ | with_reducible refine Below.alloc ?_ ?_ _ | with_reducible refine Below.setCell ?_ ?_ _ | with_reducible refine Below.setRow ?_ ?_ _ | with_reducible refine below_step (by assumption) ?_ ?_ | (show (_ : Nat) ≤ _; first | omega | (simp <;> omega)))⟩
end Go.Proofs.YtifhffnppgkjgaaGreatDoor
