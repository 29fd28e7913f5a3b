/- Lines of words: the program, at any cells and any separator of at most one byte. Written by gen_lines.py out of XLines. -/
import Derived.Test.YtejnejplofddnaaGreatDoorRg
import Derived.Test.YtejnejplofddnaaGreatDoorEndl
namespace Go.Proofs.YtejnejplofddnaaGreatDoor
open Go.RowKit Go.Sort
set_option linter.unusedVariables false
set_option linter.unusedSimpArgs false
set_option maxRecDepth 100000
theorem join_none : ∀ (l : List (List UInt8)), Lib.join l [] = l.flatten
  | [] => rfl
  | x :: r => by
    have h : ∀ r : List (List UInt8), Lib.joinTail [] r = r.flatten := by
      intro r
      induction r with
      | nil => rfl
      | cons y r ih =>
        have e : Lib.joinTail [] (y :: r) = ([] ++ y) ++ Lib.joinTail [] r := by simp [Lib.joinTail]
        rw [e, ih]; simp
    rw [Lib.join_cons, h]; simp
theorem row_bytes (ch : Nat → Nat → UInt8) (y : Nat) : ∀ x, Lib.join (rowW (fun x y => [ch x y]) y x) [] = rowB ch y x
  | 0 => rfl
  | x + 1 => by
    have h := row_bytes ch y x
    rw [join_none] at h ⊢
    show (rowW (fun x y => [ch x y]) y x ++ [[ch x y]]).flatten = rowB ch y x ++ [ch x y]
    rw [List.flatten_append, h]; simp
theorem lines_bytes (ch : Nat → Nat → UInt8) (W : Nat) : ∀ y, linesTx (fun x y => [ch x y]) [] W y = endl (linB ch W y)
  | 0 => rfl
  | y + 1 => by
    rw [linB_endl, ← lines_bytes ch W y]
    show linesTx _ [] W y ++ (Lib.join (rowW _ y W) [] ++ [10]) = _
    rw [row_bytes]
set_option maxHeartbeats 8000000 in
theorem linesP_any (p : Nat) (c : Nat → Int) (cell : Nat → Nat → List UInt8) (sep : List UInt8) (hsep : sep.length ≤ 1) (W H : Nat) (hW : c 0 = W) (hH : c 1 = H) (W8 : W ≤ 8) (H8 : H ≤ 8) (W0 : 0 < W) (hlc : ∀ x j, (cell x j).length ≤ 1000) (w : World) (hr : rowOf w p = kc sk 266 c) (hp : p < w.heap.size)
    (k0 : Value) (k1 : Value) (hcl : ∀ x y, x < W → y < H → ∀ w2, Below w.heap.size w w2 → Calls Tryz.prog 91 #[.agg #[.int .i8 (x : Int), .int .i8 (y : Int)], k0, k1] w2 fun e w' => e = .returned (.string (tx (cell x y))) ∧ Below w2.heap.size w2 w') :
    Calls Tryz.prog 90 #[.pointer (some ⟨p, 0, none⟩), .string (tx sep), .func (.func 91) #[] #[k0, k1]] w fun e w' => e = .returned (.string (tx (linesTx cell sep W H))) ∧ Below w.heap.size w w' := by
  obtain ⟨i0, z0, hi0, hz0, hs0, hb0, hc0⟩ := str_info
  have HI := Lib.hid (And.intro hi0 (And.intro hz0 (And.intro hs0 (And.intro hb0 hc0))))
  clear hi0 hz0 hs0 hb0 hc0
  have HCL := Lib.hid hcl
  have HLC := Lib.hid hlc
  clear hcl hlc
  go_enter Tryz.func90, Tryz.ntmps90
  go_wp2
  go_loopw [16] (fun i wr => ∃ y : Nat, y ≤ H ∧ i = .int .i8 y ∧ BldW w.heap.size (linesTx cell sep W y) wr ∧ Below w.heap.size w wr ∧ w.heap.size < wr.heap.size) (fun i wr => 9 - (intOf i).toNat)
  case atStart => exact ⟨0, by omega, rfl, bld_fresh w, by repeat' (first | with_reducible exact Below.refl _ _ | with_reducible assumption | with_reducible refine Below.drew ?_ | with_reducible refine Below.drewN ?_ _ | with_reducible refine Below.alloc ?_ ?_ _ | with_reducible refine Below.setCell ?_ ?_ _ | with_reducible refine Below.setRow ?_ ?_ _ | with_reducible refine below_step (by assumption) ?_ ?_ | (show (_ : Nat) ≤ _; first | omega | (simp <;> omega))), by simp⟩
  case round =>
    obtain ⟨y, hy, rfl, hbl, hb, hsz⟩ := hrel
    have HBL := Lib.hid hbl
    clear hbl
    have hrp := (keep_row hb hp).trans hr
    have hpw : p < wr.heap.size := by omega
    have hsz0 := hb.size
    have hlen := linesTx_len (cell := cell) (m := 1000) hsep (W := W) (y := y) (fun x j _ _ => HLC.out x j)
    have hlen2 : (linesTx cell sep W y).length ≤ 8009 * y := Nat.le_trans hlen (Nat.mul_le_mul_right _ (by omega))
    by_cases hy8 : y < H
    · have hyd : (y : Int) < (H : Int) := by omega
      have hyd2 : (y : Int) < c 1 := by omega
      have hwy : IntKind.i8.wrap ((y : Int) + 1) = (y : Int) + 1 := by simp only [IntKind.wrap, IntKind.bits, IntKind.signed]; simp; omega
      obtain ⟨wo, rfl⟩ : ∃ wo, wo = wr := ⟨_, rfl⟩
      have HB0 := Lib.hid hb
      go_wp2
      go_loopw [24, 9] (fun i v wx => ∃ x : Nat, x ≤ W ∧ i = .int .i8 x ∧ wx.ownsRow wo.heap.size 9 1 v x (strV (rowW cell y x)) ∧ Below wo.heap.size wo wx) (fun i v wx => 9 - (intOf i).toNat)
      case atStart => exact ⟨0, by omega, rfl, owns_empty1 wo _, by repeat' (first | with_reducible exact Below.refl _ _ | with_reducible assumption | with_reducible refine Below.drew ?_ | with_reducible refine Below.drewN ?_ _ | with_reducible refine Below.alloc ?_ ?_ _ | with_reducible refine Below.setCell ?_ ?_ _ | with_reducible refine Below.setRow ?_ ?_ _ | with_reducible refine below_step (by assumption) ?_ ?_ | (show (_ : Nat) ≤ _; first | omega | (simp <;> omega)))⟩
      case round =>
        obtain ⟨x, hx, rfl, hown, hb2⟩ := hrel
        have HO := Lib.hid hown
        clear hown
        have hszx := hb2.size
        have hrp2 := (keep_row hb2 hpw).trans hrp
        have hbx := below_step hb2 hsz0 hb
        clear hrp
        by_cases hx8 : x < W
        · have hxd : (x : Int) < (W : Int) := by omega
          have hxd2 : (x : Int) < c 0 := by omega
          have hwx : IntKind.i8.wrap ((x : Int) + 1) = (x : Int) + 1 := by simp only [IntKind.wrap, IntKind.bits, IntKind.signed]; simp; omega
          have HQ := Lib.hid (show strV (rowW cell y (x + 1)) = strV (rowW cell y x) ++ [.string (tx (cell x y))] from strV_snocL _ _)
          have HC := Lib.hid (HCL.out x y hx8 hy8)
          generalize cell x y = ct at *
          go_wp2_with (first | (go_at_call 91; refine (HC.out _ (by repeat' (first | with_reducible exact Below.refl _ _ | with_reducible assumption | with_reducible refine Below.drew ?_ | with_reducible refine Below.drewN ?_ _ | with_reducible refine Below.alloc ?_ ?_ _ | with_reducible refine Below.setCell ?_ ?_ _ | with_reducible refine Below.setRow ?_ ?_ _ | with_reducible refine below_step (by assumption) ?_ ?_ | (show (_ : Nat) ≤ _; first | omega | (simp <;> omega))))).mono ?_; rintro e wc ⟨rfl, hbc⟩; have r_hbc := keep_rowA hbc; have f_hbc := keep_frA hbc; have s_hbc := hbc.size; (try simp only [World.size_alloc, World.size_setCell, setRow_size, World.size_drew, size_drewNm] at r_hbc f_hbc s_hbc)) | (at_builtin; refine wpList_append_own _ rfl _ _ 39 rfl _ 9 i0 z0 1 16 Tryz.underlying39 HI.out.1 HI.out.2.1 HI.out.2.2.1 HI.out.2.2.2.1 HI.out.2.2.2.2 (by decide) _ _ _ rfl ((owns_below HO.out (by repeat' (first | with_reducible exact Below.refl _ _ | with_reducible assumption | with_reducible refine Below.drew ?_ | with_reducible refine Below.drewN ?_ _ | with_reducible refine Below.alloc ?_ ?_ _ | with_reducible refine Below.setCell ?_ ?_ _ | with_reducible refine Below.setRow ?_ ?_ _ | with_reducible refine below_step (by assumption) ?_ ?_ | (show (_ : Nat) ≤ _; first | omega | (simp <;> omega))))).alloc _) ⟨wc.heap.size, 0, none⟩ 1 1 [.string (tx ct)] rfl rfl ?c1 ?c2 ?c3 ?c4 ?c5 ?_))
          case c1 =>
            intro j u hj
            match j, hj with
            | 0, hj => simp at hj; subst hj; simp [Addr.add]
          case c2 => intro u hu; simp at hu; subst hu; rfl
          case c3 => unfold maxLen; omega
          case c4 => omega
          case c5 => first | omega | (simp <;> omega)
          intro v' w2 hown' hgrow _
          have hbg : Below wo.heap.size wo w2 := below_grown (Below.alloc (below_step hbc (by omega) hb2) (by first | omega | (simp <;> omega)) _) hgrow (owns_base HO.out) (by first | omega | (simp <;> omega))
          rw [← HQ.out] at hown'
          have HB := Lib.hid hbg
          have HW := Lib.hid hown'
          clear hbg hown' hgrow
          go_wp2
          go_roundw
          case rel => first | exact ⟨x + 1, by omega, by go_num, HW.out, HB.out⟩ | ((repeat (with_reducible apply Exists.intro)); refine And.intro ?_ ?_; rotate_left; (focus ((repeat' (with_reducible apply And.intro)) <;> rfl)); exact ⟨x + 1, by omega, by go_num, HW.out, HB.out⟩)
          case measure => simp [intOf]; omega
        · have hxe : x = W := by omega
          subst hxe
          have hxd : decide ((x : Int) < (x : Int)) = false := decide_eq_false (by omega)
          obtain ⟨g, cap, rfl, hg1, hg2, hcap, -⟩ := owns_pos2 HO.out W0
          have hll0 := row_len (cell := cell) (m := 1000) hsep (y := y) (W := x) (fun z _ => HLC.out z y)
          have hll : (Lib.join (rowW cell y x) sep).length ≤ 8008 := Nat.le_trans hll0 (by omega)
          have HJ := Lib.hid (fun w h => join_any g cap x wo.heap.size (rowW cell y x) sep w (rowW_len _ _ _) h (by omega) (by omega))
          have HR := Lib.hid (show linesTx cell sep x (y + 1) = linesTx cell sep x y ++ (Lib.join (rowW cell y x) sep ++ [10]) from rfl)
          have HWR := Lib.hid (fun w2 h hb => write_any w.heap.size (linesTx cell sep x y) (Lib.join (rowW cell y x) sep ++ [10]) w2 h (by rw [List.length_append, List.length_singleton]; omega) hb)
          have hk1 : ¬ 9223372036854775807 < (Lib.join (rowW cell y x) sep).length + 1 := by omega
          have hbw0 : Below w.heap.size w wr := below_step hb2 hsz0 HB0.out
          generalize hlt : Lib.join (rowW cell y x) sep = lt at *
          go_wp2_with (first | (go_at_call 126; refine (HJ.out _ (owns_below HO.out (by repeat' (first | with_reducible exact Below.refl _ _ | with_reducible assumption | with_reducible refine Below.drew ?_ | with_reducible refine Below.drewN ?_ _ | with_reducible refine Below.alloc ?_ ?_ _ | with_reducible refine Below.setCell ?_ ?_ _ | with_reducible refine Below.setRow ?_ ?_ _ | with_reducible refine below_step (by assumption) ?_ ?_ | (show (_ : Nat) ≤ _; first | omega | (simp <;> omega)))))).mono ?_; rintro e wj ⟨rfl, hbj⟩; have r_hbj := keep_rowA hbj; have f_hbj := keep_frA hbj; have s_hbj := hbj.size; (try simp only [World.size_alloc, World.size_setCell, setRow_size, World.size_drew, size_drewNm] at r_hbj f_hbj s_hbj)) | (go_at_call 125; refine (HWR.out _ (bld_below HBL.out (below_step hbj (by omega) hb2)) (by first | omega | (simp <;> omega))).mono ?_; rintro e ww ⟨xv, rfl, hbw, hbb⟩; have HBW := Lib.hid hbw; have HBB := Lib.hid (below_step hbb (Nat.le_refl _) (below_step hbj (by omega) hbw0)); have hsw := hbb.size; clear hbw))
          go_roundw
          case rel => first | exact ⟨y + 1, by omega, by go_num, by rw [HR.out]; exact HBW.out, HBB.out, by omega⟩ | ((repeat (with_reducible apply Exists.intro)); refine And.intro ?_ ?_; rotate_left; (focus ((repeat' (with_reducible apply And.intro)) <;> rfl)); exact ⟨y + 1, by omega, by go_num, by rw [HR.out]; exact HBW.out, HBB.out, by omega⟩)
          case measure => simp [intOf]; omega
    · have hye : y = H := by omega
      subst hye
      have hyd : decide ((y : Int) < (y : Int)) = false := decide_eq_false (by omega)
      go_wp2_with (go_at_call 127; refine (string_any w.heap.size _ _ HBL.out (by omega)).mono ?_; rintro e ws ⟨rfl, hbs⟩)
      go_ret
      exact ⟨rfl, below_step hbs (Nat.le_refl _) hb⟩
end Go.Proofs.YtejnejplofddnaaGreatDoor
