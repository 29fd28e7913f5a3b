/- Several texts in one: PntM LinesG PntI. -/
import Derived.Test.YtejnejplofddnaaGreatDoorPntS
import Derived.Maps.OwnOps
import Derived.Maps.Views
import Derived.DeepKeys4
import Derived.Test.YtejnejplofddnaaGreatDoorRg
import Derived.Test.YtejnejplofddnaaGreatDoorGqS
import Derived.Test.YtejnejplofddnaaGreatDoorShelfD
import Derived.Shelf.Vars
/- What marks show in an order, as a map from places: the law of such keys, and what stands at a place. -/
namespace Go.Proofs.YtejnejplofddnaaGreatDoor
open Go.RowKit Go.Maps
set_option linter.unusedVariables false
set_option linter.unusedSimpArgs false
set_option maxRecDepth 100000
/-- A place as a key. -/
def kyL (x y : Nat) : Lit := .string [UInt8.ofNat x, UInt8.ofNat y]
theorem kyL_inj {x y a b : Nat} (hx : x < 8) (hy : y < 8) (ha : a < 8) (hb : b < 8) (h : kyL x y = kyL a b) : x = a ∧ y = b := by
  unfold kyL at h
  simp only [Lit.string.injEq, List.cons.injEq, and_true] at h
  have h1 := congrArg UInt8.toNat h.1
  have h2 := congrArg UInt8.toNat h.2
  simp only [UInt8.toNat_ofNat'] at h1 h2
  omega
/-- The datum says at each place what the grid shows there. -/
def MapIs (D : DataW Unit) (G : Nat → Int) : Prop := IsMap D ∧ ∀ x y : Nat, x < 8 → y < 8 → D.atKey (kyL x y) (.lit (.int .i8 0)) = .lit (.int .i8 (G (y * 8 + x)))
theorem map_start : MapIs (.map []) fun _ => 0 := ⟨isMap_empty, fun x y _ _ => rfl⟩
theorem map_put {D : DataW Unit} {G : Nat → Int} (h : MapIs D G) {x y : Nat} (hx : x < 8) (hy : y < 8) (v : Int) : MapIs (D.put (kyL x y) (.lit (.int .i8 v))) (upI G (y * 8 + x) v) := by
  refine ⟨h.1.put _ _, fun a b ha hb => ?_⟩
  by_cases he : kyL a b = kyL x y
  · obtain ⟨h1, h2⟩ := kyL_inj ha hb hx hy he
    rw [he, atKey_put_same h.1 (show WideAt.IsKeyLit (kyL x y) from trivial)]
    unfold upI
    rw [h1, h2, if_pos rfl]
  · rw [atKey_put_other he, h.2 a b ha hb]
    unfold upI
    rw [if_neg (fun e => he (by
      have h1 : a = x := by omega
      have h2 : b = y := by omega
      rw [h1, h2]))]
theorem grown_rowM {w w' : World} {M b : Nat} (h : w.grownBy w' (some M)) (hb : b < w.heap.size) (hne : b ≠ M) : rowOf w' b = rowOf w b := by
  unfold rowOf
  rw [h.block b hb (by simpa using hne)]
theorem grown_frM {w w' : World} {M b : Nat} (h : w.grownBy w' (some M)) (hb : b < w.heap.size) (hne : b ≠ M) : frOf w' b = frOf w b := by
  unfold frOf
  rw [h.block b hb (by simpa using hne)]
theorem ky_one (x y : Nat) (hx : x < 8) (hy : y < 8) : keyOf Tryz.prog 59 (.agg #[.int .i8 (x : Int), .int .i8 (y : Int)]) = some (kyL x y) := by
  have h : ((List.range 8).all fun x => (List.range 8).all fun y => match keyOf Tryz.prog 59 (.agg #[.int .i8 (x : Int), .int .i8 (y : Int)]) with | some (.string bs) => bs == [UInt8.ofNat x, UInt8.ofNat y] | _ => false) = true := by kernel_rfl
  rw [List.all_eq_true] at h
  have h1 := h x (List.mem_range.2 hx)
  rw [List.all_eq_true] at h1
  have h2 := h1 y (List.mem_range.2 hy)
  split at h2
  · rename_i bs e
    rw [e]
    unfold kyL
    rw [eq_of_beq h2]
  · cases h2
theorem spot_keys : Keyed Tryz.prog 59 := Keyed.of_law (deep_law_laid (m := 4) (by kernel_rfl) (by omega) (of_decide_eq_true (by kernel_rfl)) (by kernel_rfl) (by kernel_rfl))
theorem zero_i8 (w : World) : (zeroValue 24).run Tryz.prog w = .ok (.int .i8 0) w := by kernel_rfl
end Go.Proofs.YtejnejplofddnaaGreatDoor
/- Lines of words: the program, at any cells and any separator of at most one byte. Written by gen_lines.py out of XLines. -/
namespace Go.Proofs.YtejnejplofddnaaGreatDoor
open Go.RowKit Go.Sort
set_option linter.unusedVariables false
set_option linter.unusedSimpArgs false
set_option maxRecDepth 100000
theorem join_none : ∀ (l : List (List UInt8)), Lib.join l [] = l.flatten
  | [] => rfl
  | x :: r => by
    have h : ∀ r : List (List UInt8), Lib.joinTail [] r = r.flatten := by
      intro r
      induction r with
      | nil => rfl
      | cons y r ih =>
        have e : Lib.joinTail [] (y :: r) = ([] ++ y) ++ Lib.joinTail [] r := by simp [Lib.joinTail]
        rw [e, ih]; simp
    rw [Lib.join_cons, h]; simp
theorem row_bytes (ch : Nat → Nat → UInt8) (y : Nat) : ∀ x, Lib.join (rowW (fun x y => [ch x y]) y x) [] = rowB ch y x
  | 0 => rfl
  | x + 1 => by
    have h := row_bytes ch y x
    rw [join_none] at h ⊢
    show (rowW (fun x y => [ch x y]) y x ++ [[ch x y]]).flatten = rowB ch y x ++ [ch x y]
    rw [List.flatten_append, h]; simp
theorem lines_bytes (ch : Nat → Nat → UInt8) (W : Nat) : ∀ y, linesTx (fun x y => [ch x y]) [] W y = endl (linB ch W y)
  | 0 => rfl
  | y + 1 => by
    rw [linB_endl, ← lines_bytes ch W y]
    show linesTx _ [] W y ++ (Lib.join (rowW _ y W) [] ++ [10]) = _
    rw [row_bytes]
set_option maxHeartbeats 8000000 in
theorem linesP_any (p : Nat) (c : Nat → Int) (cell : Nat → Nat → List UInt8) (sep : List UInt8) (hsep : sep.length ≤ 1) (W H : Nat) (hW : c 0 = W) (hH : c 1 = H) (W8 : W ≤ 8) (H8 : H ≤ 8) (W0 : 0 < W) (hlc : ∀ x j, (cell x j).length ≤ 1000) (w : World) (hr : rowOf w p = kc sk 266 c) (hp : p < w.heap.size)
    (k0 : Value) (k1 : Value) (hcl : ∀ x y, x < W → y < H → ∀ w2, Below w.heap.size w w2 → Calls Tryz.prog 91 #[.agg #[.int .i8 (x : Int), .int .i8 (y : Int)], k0, k1] w2 fun e w' => e = .returned (.string (tx (cell x y))) ∧ Below w2.heap.size w2 w') :
    Calls Tryz.prog 90 #[.pointer (some ⟨p, 0, none⟩), .string (tx sep), .func (.func 91) #[] #[k0, k1]] w fun e w' => e = .returned (.string (tx (linesTx cell sep W H))) ∧ Below w.heap.size w w' := by
  obtain ⟨i0, z0, hi0, hz0, hs0, hb0, hc0⟩ := str_info
  have HI := Lib.hid (And.intro hi0 (And.intro hz0 (And.intro hs0 (And.intro hb0 hc0))))
  clear hi0 hz0 hs0 hb0 hc0
  have HCL := Lib.hid hcl
  have HLC := Lib.hid hlc
  clear hcl hlc
  go_enter Tryz.func90, Tryz.ntmps90
  go_wp2
  go_loopw [16] (fun i wr => ∃ y : Nat, y ≤ H ∧ i = .int .i8 y ∧ BldW w.heap.size (linesTx cell sep W y) wr ∧ Below w.heap.size w wr ∧ w.heap.size < wr.heap.size) (fun i wr => 9 - (intOf i).toNat)
  case atStart => exact ⟨0, by omega, rfl, bld_fresh w, by repeat' (first | with_reducible exact Below.refl _ _ | with_reducible assumption | with_reducible refine Below.drew ?_ | with_reducible refine Below.drewN ?_ _ | with_reducible refine Below.alloc ?_ ?_ _ | with_reducible refine Below.setCell ?_ ?_ _ | with_reducible refine Below.setRow ?_ ?_ _ | with_reducible refine below_step (by assumption) ?_ ?_ | (show (_ : Nat) ≤ _; first | omega | (simp <;> omega))), by simp⟩
  case round =>
    obtain ⟨y, hy, rfl, hbl, hb, hsz⟩ := hrel
    have HBL := Lib.hid hbl
    clear hbl
    have hrp := (keep_row hb hp).trans hr
    have hpw : p < wr.heap.size := by omega
    have hsz0 := hb.size
    have hlen := linesTx_len (cell := cell) (m := 1000) hsep (W := W) (y := y) (fun x j _ _ => HLC.out x j)
    have hlen2 : (linesTx cell sep W y).length ≤ 8009 * y := Nat.le_trans hlen (Nat.mul_le_mul_right _ (by omega))
    by_cases hy8 : y < H
    · have hyd : (y : Int) < (H : Int) := by omega
      have hyd2 : (y : Int) < c 1 := by omega
      have hwy : IntKind.i8.wrap ((y : Int) + 1) = (y : Int) + 1 := by simp only [IntKind.wrap, IntKind.bits, IntKind.signed]; simp; omega
      obtain ⟨wo, rfl⟩ : ∃ wo, wo = wr := ⟨_, rfl⟩
      have HB0 := Lib.hid hb
      go_wp2
      go_loopw [24, 9] (fun i v wx => ∃ x : Nat, x ≤ W ∧ i = .int .i8 x ∧ wx.ownsRow wo.heap.size 9 1 v x (strV (rowW cell y x)) ∧ Below wo.heap.size wo wx) (fun i v wx => 9 - (intOf i).toNat)
      case atStart => exact ⟨0, by omega, rfl, owns_empty1 wo _, by repeat' (first | with_reducible exact Below.refl _ _ | with_reducible assumption | with_reducible refine Below.drew ?_ | with_reducible refine Below.drewN ?_ _ | with_reducible refine Below.alloc ?_ ?_ _ | with_reducible refine Below.setCell ?_ ?_ _ | with_reducible refine Below.setRow ?_ ?_ _ | with_reducible refine below_step (by assumption) ?_ ?_ | (show (_ : Nat) ≤ _; first | omega | (simp <;> omega)))⟩
      case round =>
        obtain ⟨x, hx, rfl, hown, hb2⟩ := hrel
        have HO := Lib.hid hown
        clear hown
        have hszx := hb2.size
        have hrp2 := (keep_row hb2 hpw).trans hrp
        have hbx := below_step hb2 hsz0 hb
        clear hrp
        by_cases hx8 : x < W
        · have hxd : (x : Int) < (W : Int) := by omega
          have hxd2 : (x : Int) < c 0 := by omega
          have hwx : IntKind.i8.wrap ((x : Int) + 1) = (x : Int) + 1 := by simp only [IntKind.wrap, IntKind.bits, IntKind.signed]; simp; omega
          have HQ := Lib.hid (show strV (rowW cell y (x + 1)) = strV (rowW cell y x) ++ [.string (tx (cell x y))] from strV_snocL _ _)
          have HC := Lib.hid (HCL.out x y hx8 hy8)
          generalize cell x y = ct at *
          go_wp2_with (first | (go_at_call 91; refine (HC.out _ (by repeat' (first | with_reducible exact Below.refl _ _ | with_reducible assumption | with_reducible refine Below.drew ?_ | with_reducible refine Below.drewN ?_ _ | with_reducible refine Below.alloc ?_ ?_ _ | with_reducible refine Below.setCell ?_ ?_ _ | with_reducible refine Below.setRow ?_ ?_ _ | with_reducible refine below_step (by assumption) ?_ ?_ | (show (_ : Nat) ≤ _; first | omega | (simp <;> omega))))).mono ?_; rintro e wc ⟨rfl, hbc⟩; have r_hbc := keep_rowA hbc; have f_hbc := keep_frA hbc; have s_hbc := hbc.size; (try simp only [World.size_alloc, World.size_setCell, setRow_size, World.size_drew, size_drewNm] at r_hbc f_hbc s_hbc)) | (at_builtin; refine wpList_append_own _ rfl _ _ 39 rfl _ 9 i0 z0 1 16 Tryz.underlying39 HI.out.1 HI.out.2.1 HI.out.2.2.1 HI.out.2.2.2.1 HI.out.2.2.2.2 (by decide) _ _ _ rfl ((owns_below HO.out (by repeat' (first | with_reducible exact Below.refl _ _ | with_reducible assumption | with_reducible refine Below.drew ?_ | with_reducible refine Below.drewN ?_ _ | with_reducible refine Below.alloc ?_ ?_ _ | with_reducible refine Below.setCell ?_ ?_ _ | with_reducible refine Below.setRow ?_ ?_ _ | with_reducible refine below_step (by assumption) ?_ ?_ | (show (_ : Nat) ≤ _; first | omega | (simp <;> omega))))).alloc _) ⟨wc.heap.size, 0, none⟩ 1 1 [.string (tx ct)] rfl rfl ?c1 ?c2 ?c3 ?c4 ?c5 ?_))
          case c1 =>
            intro j u hj
            match j, hj with
            | 0, hj => simp at hj; subst hj; simp [Addr.add]
          case c2 => intro u hu; simp at hu; subst hu; rfl
          case c3 => unfold maxLen; omega
          case c4 => omega
          case c5 => first | omega | (simp <;> omega)
          intro v' w2 hown' hgrow _
          have hbg : Below wo.heap.size wo w2 := below_grown (Below.alloc (below_step hbc (by omega) hb2) (by first | omega | (simp <;> omega)) _) hgrow (owns_base HO.out) (by first | omega | (simp <;> omega))
          rw [← HQ.out] at hown'
          have HB := Lib.hid hbg
          have HW := Lib.hid hown'
          clear hbg hown' hgrow
          go_wp2
          go_roundw
          case rel => first | exact ⟨x + 1, by omega, by go_num, HW.out, HB.out⟩ | ((repeat (with_reducible apply Exists.intro)); refine And.intro ?_ ?_; rotate_left; (focus ((repeat' (with_reducible apply And.intro)) <;> rfl)); exact ⟨x + 1, by omega, by go_num, HW.out, HB.out⟩)
          case measure => simp [intOf]; omega
        · have hxe : x = W := by omega
          subst hxe
          have hxd : decide ((x : Int) < (x : Int)) = false := decide_eq_false (by omega)
          obtain ⟨g, cap, rfl, hg1, hg2, hcap, -⟩ := owns_pos2 HO.out W0
          have hll0 := row_len (cell := cell) (m := 1000) hsep (y := y) (W := x) (fun z _ => HLC.out z y)
          have hll : (Lib.join (rowW cell y x) sep).length ≤ 8008 := Nat.le_trans hll0 (by omega)
          have HJ := Lib.hid (fun w h => join_any g cap x wo.heap.size (rowW cell y x) sep w (rowW_len _ _ _) h (by omega) (by omega))
          have HR := Lib.hid (show linesTx cell sep x (y + 1) = linesTx cell sep x y ++ (Lib.join (rowW cell y x) sep ++ [10]) from rfl)
          have HWR := Lib.hid (fun w2 h hb => write_any w.heap.size (linesTx cell sep x y) (Lib.join (rowW cell y x) sep ++ [10]) w2 h (by rw [List.length_append, List.length_singleton]; omega) hb)
          have hk1 : ¬ 9223372036854775807 < (Lib.join (rowW cell y x) sep).length + 1 := by omega
          have hbw0 : Below w.heap.size w wr := below_step hb2 hsz0 HB0.out
          generalize hlt : Lib.join (rowW cell y x) sep = lt at *
          go_wp2_with (first | (go_at_call 126; refine (HJ.out _ (owns_below HO.out (by repeat' (first | with_reducible exact Below.refl _ _ | with_reducible assumption | with_reducible refine Below.drew ?_ | with_reducible refine Below.drewN ?_ _ | with_reducible refine Below.alloc ?_ ?_ _ | with_reducible refine Below.setCell ?_ ?_ _ | with_reducible refine Below.setRow ?_ ?_ _ | with_reducible refine below_step (by assumption) ?_ ?_ | (show (_ : Nat) ≤ _; first | omega | (simp <;> omega)))))).mono ?_; rintro e wj ⟨rfl, hbj⟩; have r_hbj := keep_rowA hbj; have f_hbj := keep_frA hbj; have s_hbj := hbj.size; (try simp only [World.size_alloc, World.size_setCell, setRow_size, World.size_drew, size_drewNm] at r_hbj f_hbj s_hbj)) | (go_at_call 125; refine (HWR.out _ (bld_below HBL.out (below_step hbj (by omega) hb2)) (by first | omega | (simp <;> omega))).mono ?_; rintro e ww ⟨xv, rfl, hbw, hbb⟩; have HBW := Lib.hid hbw; have HBB := Lib.hid (below_step hbb (Nat.le_refl _) (below_step hbj (by omega) hbw0)); have hsw := hbb.size; clear hbw))
          go_roundw
          case rel => first | exact ⟨y + 1, by omega, by go_num, by rw [HR.out]; exact HBW.out, HBB.out, by omega⟩ | ((repeat (with_reducible apply Exists.intro)); refine And.intro ?_ ?_; rotate_left; (focus ((repeat' (with_reducible apply And.intro)) <;> rfl)); exact ⟨y + 1, by omega, by go_num, by rw [HR.out]; exact HBW.out, HBB.out, by omega⟩)
          case measure => simp [intOf]; omega
    · have hye : y = H := by omega
      subst hye
      have hyd : decide ((y : Int) < (y : Int)) = false := decide_eq_false (by omega)
      go_wp2_with (go_at_call 127; refine (string_any w.heap.size _ _ HBL.out (by omega)).mono ?_; rintro e ws ⟨rfl, hbs⟩)
      go_ret
      exact ⟨rfl, below_step hbs (Nat.le_refl _) hb⟩
end Go.Proofs.YtejnejplofddnaaGreatDoor
/- What marks show in an order: the program. -/
namespace Go.Proofs.YtejnejplofddnaaGreatDoor
open Go.RowKit Go.Maps
set_option linter.unusedVariables false
set_option linter.unusedSimpArgs false
set_option maxRecDepth 100000
@[go_sem ↓] theorem chp_46 (w : World) : (convert 5 9 (.int .u8 46)).run Tryz.prog w = .ok (.string (tx [46])) w := by kernel_rfl
@[go_sem ↓] theorem chp_97 (w : World) : (convert 5 9 (.int .u8 97)).run Tryz.prog w = .ok (.string (tx [97])) w := by kernel_rfl
@[go_sem ↓] theorem chp_98 (w : World) : (convert 5 9 (.int .u8 98)).run Tryz.prog w = .ok (.string (tx [98])) w := by kernel_rfl
@[go_sem ↓] theorem chp_99 (w : World) : (convert 5 9 (.int .u8 99)).run Tryz.prog w = .ok (.string (tx [99])) w := by kernel_rfl
theorem own_map_below {w w' : World} {H : Type} {P : Program} {k : TypeId} {pe : Value → Option (DataW H × List MemPlace)} {M n : Nat} {D : DataW H} (h : w.ownsMap P k pe M n D) (hb : Below w.heap.size w w') : w'.ownsMap P k pe M n D := by
  have hlt := h.lt
  obtain ⟨es, clock, h1, F, hs, hD⟩ := h
  exact ⟨es, clock, (hb.block M hlt).trans h1, F, hs, hD⟩
set_option maxHeartbeats 4000000 in
theorem paint1_any (p : Nat) (c : Nat → Int) (hfc : FitSheet c) (x y : Nat) (hx : x < 8) (hy : y < 8) (b3 b7 M cnt : Nat) (D : DataW Unit) (G : Nat → Int) (hG : ∀ q, 0 ≤ G q ∧ G q ≤ 3) (hD : MapIs D G) (w : World) (hr : rowOf w p = kc sk 266 c) (hp : p < w.heap.size) (h3 : rowOf w b3 = #[.pointer (some ⟨p, 0, none⟩)]) (h3l : b3 < w.heap.size) (h7 : rowOf w b7 = #[.map (some M)]) (h7l : b7 < w.heap.size) (hm : w.ownsMap Tryz.prog 59 (plainElem Tryz.prog 24) M cnt D) :
    Calls Tryz.prog 91 #[.agg #[.int .i8 (x : Int), .int .i8 (y : Int)], .pointer (some ⟨b3, 0, none⟩), .pointer (some ⟨b7, 0, none⟩)] w fun e w' => e = .returned (.string (tx [chP c G x y])) ∧ Below w.heap.size w w' := by
  have HX0 := fun w h1 h2 => waxed_any p c hfc x y hx hy w h1 h2
  have HM := Lib.hid hm
  have hat := hD.2 x y hx hy
  have hGq := hG (y * 8 + x)
  obtain ⟨v, hv⟩ : ∃ v, G (y * 8 + x) = v := ⟨_, rfl⟩
  rcases Bool.eq_false_or_eq_true (waxS c x y) with h1 | h1
  · rw [h1] at HX0
    have HX := Lib.hid HX0
    have HC := Lib.hid (ch_wax (g := G) h1)
    clear HX0 hm h1
    go_enter Tryz.func91, Tryz.ntmps91
    go_wp2_with (go_at_call 61; refine (HX.out _ (by (go_simp <;> (intros; omega))) (by first | omega | (simp <;> omega))).mono ?_; rintro e w1 ⟨rfl, hb1⟩; have r1 := keep_rowA hb1; have f1 := keep_frA hb1; have s1 := hb1.size; (try simp only [World.size_alloc, World.size_setCell, setRow_size, World.size_drew, size_drewNm] at r1 f1 s1))
    go_ret
    exact ⟨by rw [HC.out]; rfl, by repeat' (first | with_reducible exact Below.refl _ _ | with_reducible assumption | with_reducible refine Below.drew ?_ | with_reducible refine Below.drewN ?_ _ | with_reducible refine Below.alloc ?_ ?_ _ | with_reducible refine Below.setCell ?_ ?_ _ | with_reducible refine Below.setRow ?_ ?_ _ | with_reducible refine below_step (by assumption) ?_ ?_ | (show (_ : Nat) ≤ _; first | omega | (simp <;> omega)))⟩
  · rw [h1] at HX0
    have HX := Lib.hid HX0
    have HC := Lib.hid (ch_dry h1 hv)
    rw [hv] at hat hGq
    have HAT := Lib.hid hat
    have HK := Lib.hid (ky_one x y hx hy)
    clear HX0 hm h1 hat
    go_enter Tryz.func91, Tryz.ntmps91
    go_wp2_with (first | (go_at_call 61; refine (HX.out _ (by (go_simp <;> (intros; omega))) (by first | omega | (simp <;> omega))).mono ?_; rintro e wc ⟨rfl, hbc⟩; have r_hbc := keep_rowA hbc; have f_hbc := keep_frA hbc; have s_hbc := hbc.size; (try simp only [World.size_alloc, World.size_setCell, setRow_size, World.size_drew, size_drewNm] at r_hbc f_hbc s_hbc)) | (at_lookup; generalize hZZ : wpList _ _ _ _ _ _ = ZZ))
    subst hZZ
    refine wpList_lookup_own_int _ rfl _ _ 135 rfl 59 24 .i8 spot_keys Tryz.underlying135 Tryz.underlying24 (zero_i8 _) M cnt D rfl ?hm _ _ rfl HK.out ?_
    case hm => exact own_map_below HM.out (by repeat' (first | with_reducible exact Below.refl _ _ | with_reducible assumption | with_reducible refine Below.drew ?_ | with_reducible refine Below.drewN ?_ _ | with_reducible refine Below.alloc ?_ ?_ _ | with_reducible refine Below.setCell ?_ ?_ _ | with_reducible refine Below.setRow ?_ ?_ _ | with_reducible refine below_step (by assumption) ?_ ?_ | (show (_ : Nat) ≤ _; first | omega | (simp <;> omega))))
    intro cv hcv hwc
    rw [HAT.out] at hcv
    simp only [DataW.lit.injEq, Lit.int.injEq, true_and] at hcv
    subst hcv
    clear hwc
    have hv4 : v = 0 ∨ v = 1 ∨ v = 2 ∨ v = 3 := by omega
    clear hGq hv HAT
    rcases hv4 with rfl | hv4
    · go_wp2
      go_ret
      exact ⟨by rw [HC.out]; rfl, by repeat' (first | with_reducible exact Below.refl _ _ | with_reducible assumption | with_reducible refine Below.drew ?_ | with_reducible refine Below.drewN ?_ _ | with_reducible refine Below.alloc ?_ ?_ _ | with_reducible refine Below.setCell ?_ ?_ _ | with_reducible refine Below.setRow ?_ ?_ _ | with_reducible refine below_step (by assumption) ?_ ?_ | (show (_ : Nat) ≤ _; first | omega | (simp <;> omega)))⟩
    rcases hv4 with rfl | hv4
    · go_wp2
      go_ret
      exact ⟨by rw [HC.out]; rfl, by repeat' (first | with_reducible exact Below.refl _ _ | with_reducible assumption | with_reducible refine Below.drew ?_ | with_reducible refine Below.drewN ?_ _ | with_reducible refine Below.alloc ?_ ?_ _ | with_reducible refine Below.setCell ?_ ?_ _ | with_reducible refine Below.setRow ?_ ?_ _ | with_reducible refine below_step (by assumption) ?_ ?_ | (show (_ : Nat) ≤ _; first | omega | (simp <;> omega)))⟩
    rcases hv4 with rfl | rfl
    · go_wp2
      go_ret
      exact ⟨by rw [HC.out]; rfl, by repeat' (first | with_reducible exact Below.refl _ _ | with_reducible assumption | with_reducible refine Below.drew ?_ | with_reducible refine Below.drewN ?_ _ | with_reducible refine Below.alloc ?_ ?_ _ | with_reducible refine Below.setCell ?_ ?_ _ | with_reducible refine Below.setRow ?_ ?_ _ | with_reducible refine below_step (by assumption) ?_ ?_ | (show (_ : Nat) ≤ _; first | omega | (simp <;> omega)))⟩
    · go_wp2
      go_ret
      exact ⟨by rw [HC.out]; rfl, by repeat' (first | with_reducible exact Below.refl _ _ | with_reducible assumption | with_reducible refine Below.drew ?_ | with_reducible refine Below.drewN ?_ _ | with_reducible refine Below.alloc ?_ ?_ _ | with_reducible refine Below.setCell ?_ ?_ _ | with_reducible refine Below.setRow ?_ ?_ _ | with_reducible refine below_step (by assumption) ?_ ?_ | (show (_ : Nat) ≤ _; first | omega | (simp <;> omega)))⟩
/-- What strings.Split leans on. -/
def MxW (w : World) : Prop := ∃ m, w.cell? ⟨0, 0, none⟩ = some (.int .i64 m)
theorem MxW.below {w w' : World} (h : MxW w) (hb : Below w.heap.size w w') : MxW w' := by
  obtain ⟨m, hm⟩ := h
  refine ⟨m, ?_⟩
  unfold World.cell? at hm ⊢
  have hlt : 0 < w.heap.size := by
    rcases Nat.lt_or_ge 0 w.heap.size with h' | h'
    · exact h'
    · simp [Array.getElem?_eq_none h'] at hm
  rw [hb.block _ hlt]
  exact hm
theorem MxW.of {W : World} (hSh : W.ShapedOpen Tryz.prog) : MxW W :=
  cell_of_shapedOpen_int (P := Tryz.prog) (g := 0) (t := 3) (zero := #[.int .i64 0]) hSh (of_decide_eq_true (by kernel_rfl)) (by kernel_rfl) rfl (by kernel_rfl) (by kernel_rfl) Tryz.underlying3
theorem split_anyM (b : UInt8) (l : List UInt8) (hl : l.length ≤ 1048576) (w : World) (h : MxW w) :
    Calls Tryz.prog 63 #[.string (tx l), .string (tx [b])] w fun e w' => e = .returned (.slice (some ⟨w.heap.size, 0, none⟩) (sp b l).length (sp b l).length) ∧ w' = w.alloc (.cells (strV (sp b l)).toArray 9) := by
  obtain ⟨m, hm⟩ := h
  refine (Tryz.strings_Split (tx l) (tx [b]) m w (by rw [tx_size]; omega) hm (by rw [tx_size]; exact Nat.le_refl 1)).mono fun e w' hq => ?_
  obtain ⟨he, rfl⟩ := hq
  rw [count_is] at he
  refine ⟨he, ?_⟩
  rw [split_is, List.map_map]; rfl
theorem owns_madeP (w : World) (e : TypeId) (L : List Value) (hl : L.length ≤ 1048576) : (w.alloc (.cells L.toArray e)).ownsRow w.heap.size e 1 (.slice (some ⟨w.heap.size, 0, none⟩) L.length L.length) L.length L :=
  ⟨by simp, .inr ⟨w.heap.size, L.length, L.toArray, rfl, Nat.le_refl _, by unfold World.alloc; exact Array.getElem?_push_size, Nat.le_refl _, by unfold maxLen; omega, by simp, by simp⟩⟩
theorem split_own (t : List UInt8) (L : List (List UInt8)) (H : Nat) (hL : L.length = H) (hs : sp 10 t = L) (ht : t.length ≤ 1048576) (hH : H ≤ 1048576) (w : World) (h : MxW w) :
    Calls Tryz.prog 63 #[.string (tx t), .string (tx [10])] w fun e w' => ∃ v', e = .returned v' ∧ w'.ownsRow w.heap.size 9 1 v' H (strV L) ∧ Below w.heap.size w w' := by
  refine (split_anyM 10 t ht w h).mono fun e w' hq => ?_
  obtain ⟨rfl, rfl⟩ := hq
  rw [hs]
  have hl : (strV L).length = L.length := by unfold strV; rw [List.length_map]
  have := owns_madeP w 9 (strV L) (by omega)
  rw [hl, hL] at this
  exact ⟨_, rfl, by rw [hL]; exact this, by repeat' (first | with_reducible exact Below.refl _ _ | with_reducible assumption | with_reducible refine Below.drew ?_ | with_reducible refine Below.drewN ?_ _ | with_reducible refine Below.alloc ?_ ?_ _ | with_reducible refine Below.setCell ?_ ?_ _ | with_reducible refine Below.setRow ?_ ?_ _ | with_reducible refine below_step (by assumption) ?_ ?_ | (show (_ : Nat) ≤ _; first | omega | (simp <;> omega)))⟩
theorem own_map_alloc {H : Type} {P : Program} (w : World) (k : TypeId) (pe : Value → Option (DataW H × List MemPlace)) (o1 : Array Value) (e1 : TypeId) (o2 : Obj) : (((w.alloc (.cells o1 e1)).alloc (.map #[] 0)).alloc o2).ownsMap P k pe (w.heap.size + 1) 0 (.map []) := by
  have h := World.ownsMap_made (w.alloc (.cells o1 e1)) P k pe
  rw [World.size_alloc] at h
  exact h.alloc o2
set_option maxHeartbeats 8000000 in
theorem paint_any (p : Nat) (c : Nat → Int) (hfc : FitSheet c) (W H : Nat) (hW : c 0 = W) (hH : c 1 = H) (W0 : 0 < W) (W8 : W ≤ 8) (H0 : 0 < H) (H8 : H ≤ 8) (v : Value) (n b : Nat) (F : Nat → Mk) (hn : n ≤ 1048576) (hF : ∀ k, k < n → MkLay (F k)) (lv : Value) (bl : Nat) (l : List Nat) (hl : l.length ≤ 1048576) (hli : ∀ i ∈ l, i < n) (w : World) (hr : rowOf w p = kc sk 266 c) (hp : p < w.heap.size) (h : OwnM w b v n F) (hlv : OwnK .i64 1 w bl lv l.length (nl l)) (hM : MxW w) :
    Calls Tryz.prog 43 #[.pointer (some ⟨p, 0, none⟩), v, lv] w fun e w' => ∃ v', e = .returned v' ∧ w'.ownsRow w.heap.size 9 1 v' H (strV (linB (chP c (pntG F l)) W H)) ∧ Below w.heap.size w w' := by
  have hmm := @run_makeMap Tryz.prog
  have HH := Lib.hid h
  have HF := Lib.hid hF
  have HL := Lib.hid hlv
  have HLI := Lib.hid hli
  have HM := Lib.hid hM
  have hgr := pnt_in (F := F) (l := l) (fun i hi => (hF i (hli i hi)).1)
  obtain ⟨a, cap, rfl⟩ := h.1.len
  obtain ⟨al, cl, rfl⟩ := hlv.len
  clear h hF hlv hli hM
  go_enter Tryz.func43, Tryz.ntmps43
  go_wp2
  go_loopw [16] (fun i wr => ∃ (k cnt : Nat) (D : DataW Unit), k ≤ l.length ∧ i = .int .i64 k ∧ Below w.heap.size w wr ∧ w.heap.size + 3 ≤ wr.heap.size ∧ rowOf wr w.heap.size = #[.pointer (some ⟨p, 0, none⟩)] ∧ rowOf wr (w.heap.size + 2) = #[.map (some (w.heap.size + 1))] ∧ wr.ownsMap Tryz.prog 59 (plainElem Tryz.prog 24) (w.heap.size + 1) cnt D ∧ cnt ≤ 64 * k ∧ MapIs D (pntG F (l.take k))) (fun i wr => l.length + 1 - (intOf i).toNat)
  case atStart => exact ⟨0, 0, .map [], by omega, rfl, by repeat' (first | with_reducible exact Below.refl _ _ | with_reducible assumption | with_reducible refine Below.drew ?_ | with_reducible refine Below.drewN ?_ _ | with_reducible refine Below.alloc ?_ ?_ _ | with_reducible refine Below.setCell ?_ ?_ _ | with_reducible refine Below.setRow ?_ ?_ _ | with_reducible refine below_step (by assumption) ?_ ?_ | (show (_ : Nat) ≤ _; first | omega | (simp <;> omega))), by first | omega | (simp <;> omega), by (go_simp <;> (intros; omega)), by (go_simp <;> (intros; omega)), own_map_alloc w 59 (plainElem Tryz.prog 24) _ _ _, by omega, map_start⟩
  case round =>
    obtain ⟨k, cnt, D, hk, rfl, hb, hsz, hr0, hr2, hmap, hcnt, hMD⟩ := hrel
    have hsz0 := hb.size
    have HMP := Lib.hid hmap
    have HMD := Lib.hid hMD
    clear hmap hMD
    by_cases hlt : k < l.length
    · obtain ⟨lg, lcap, hv, -, hlg, -, hlR, hlc⟩ := HL.out.pos (by omega)
      simp only [Value.slice.injEq] at hv
      obtain ⟨rfl, -, rfl⟩ := hv
      obtain ⟨i, hi⟩ : ∃ i, l[k]? = some i := ⟨_, List.getElem?_eq_getElem hlt⟩
      have hin : i < n := HLI.out i (List.mem_of_getElem? hi)
      have e0 := hlc k (by omega)
      rw [nl_at hi, ← keep_row hb hlg] at e0
      have hlgw : lg < wr.heap.size := by omega
      obtain ⟨g, cap', hv, -, hg, -, hRs, hcells⟩ := HH.out.1.pos (by omega)
      simp only [Value.slice.injEq] at hv
      obtain ⟨rfl, -, rfl⟩ := hv
      have he1 := hcells i hin 0 (by omega)
      have he2 := hcells i hin 1 (by omega)
      obtain ⟨R, hR⟩ : ∃ R, rowOf w g = R := ⟨_, rfl⟩
      have hr1 := (keep_row hb hg).trans hR
      rw [hR] at he1 he2 hRs
      have hRk : i * 2 + 2 ≤ R.size := by omega
      have hgw : g < wr.heap.size := by omega
      have hin2 : (i : Int) < (n : Int) := by omega
      have hlt2 : (k : Int) < (l.length : Int) := by omega
      have hT := HH.out.2 i hin
      obtain ⟨⟨hc0, hc2⟩, hn64, hxy⟩ := HF.out i hin
      have HG := Lib.hid (show pntG F (l.take (k + 1)) = coverK (F i) (F i).n (pntG F (l.take k)) by rw [take_snoc hi, pntG_snoc])
      have hwc : IntKind.i8.wrap ((F i).col + 1) = (F i).col + 1 := by simp only [IntKind.wrap, IntKind.bits, IntKind.signed]; simp; omega
      simp only [mkV] at he1 he2
      obtain ⟨X, hX⟩ : ∃ X, F i = X := ⟨_, rfl⟩
      rw [hX] at he1 he2 hT hc0 hc2 hn64 hxy HG hwc
      obtain ⟨G, hGd⟩ : ∃ G, pntG F (l.take k) = G := ⟨_, rfl⟩
      rw [hGd] at HG
      have HMD2 := Lib.hid (hGd ▸ HMD.out)
      clear HMD hGd
      obtain ⟨wo, rfl⟩ : ∃ wo, wo = wr := ⟨_, rfl⟩
      have hkw : IntKind.i64.wrap ((k : Int) + 1) = ((k + 1 : Nat) : Int) := by rw [IntWalk.i64_in _ (by omega)]; rfl
      have HXY := Lib.hid hxy
      have HTT := Lib.hid hT
      obtain ⟨ak, ck, hvk⟩ := hT.len
      rw [hvk] at he2
      have HR0 := Lib.hid hR
      rw [Nat.add_zero] at he1
      clear hcells hT hxy hR hlc hX
      have HNX := Lib.hid (coverK_next X · G)
      have HZ0 := Lib.hid (coverK_zero X G)
      have HWF := Lib.hid (show (Lit.int .i8 (X.col + 1)).wf = true by unfold Lit.wf; simp [IntKind.min, IntKind.max, IntKind.bits, IntKind.signed]; omega)
      go_wp2
      go_loopw [26] (fun i wx => ∃ (q cn : Nat) (E : DataW Unit), q ≤ X.n ∧ i = .int .i64 q ∧ Below w.heap.size w wx ∧ wo.heap.size ≤ wx.heap.size ∧ rowOf wx w.heap.size = #[.pointer (some ⟨p, 0, none⟩)] ∧ rowOf wx (w.heap.size + 2) = #[.map (some (w.heap.size + 1))] ∧ wx.ownsMap Tryz.prog 59 (plainElem Tryz.prog 24) (w.heap.size + 1) cn E ∧ cn ≤ 64 * k + q ∧ MapIs E (coverK X q G)) (fun i wx => X.n + 1 - (intOf i).toNat)
      case atStart => exact ⟨0, cnt, D, by omega, rfl, by repeat' (first | with_reducible exact Below.refl _ _ | with_reducible assumption | with_reducible refine Below.drew ?_ | with_reducible refine Below.drewN ?_ _ | with_reducible refine Below.alloc ?_ ?_ _ | with_reducible refine Below.setCell ?_ ?_ _ | with_reducible refine Below.setRow ?_ ?_ _ | with_reducible refine below_step (by assumption) ?_ ?_ | (show (_ : Nat) ≤ _; first | omega | (simp <;> omega))), by first | omega | (simp <;> omega), by (go_simp <;> (intros; omega)), by (go_simp <;> (intros; omega)), HMP.out, by omega, by rw [HZ0.out]; exact HMD2.out⟩
      case round =>
        clear hb hr0 hr2 HMP hcnt HMD2
        obtain ⟨q, cn, E, hq, rfl, hb, hsz2, hr0, hr2, hmap, hcnt, hMD⟩ := hrel
        have hsz1 := hb.size
        have HMP := Lib.hid hmap
        have HMD := Lib.hid hMD
        clear hmap hMD
        by_cases hqlt : q < X.n
        · obtain ⟨g2, cap2, hv2, -, hg2, -, hRs2, hc2'⟩ := HTT.out.pos (by omega)
          rw [hvk] at hv2
          simp only [Value.slice.injEq] at hv2
          obtain ⟨rfl, -, rfl⟩ := hv2
          obtain ⟨x, y, hx8, hy8, hfx, hfy⟩ := HXY.out q hqlt
          have e1 := hc2' (q * 2) (by omega)
          have e2 := hc2' (q * 2 + 1) (by omega)
          rw [hfx, ← keep_row hb hg2] at e1
          rw [hfy, ← keep_row hb hg2] at e2
          have hR2s : q * 2 + 2 ≤ (rowOf wr g2).size := by rw [keep_row hb hg2]; omega
          obtain ⟨R2, hR2⟩ : ∃ R2, rowOf wr g2 = R2 := ⟨_, rfl⟩
          rw [hR2] at e1 e2 hR2s
          have hr1x := (keep_row hb hg).trans HR0.out
          have hg2w : g2 < wr.heap.size := by omega
          have hgwx : g < wr.heap.size := by omega
          have hq2 : (q : Int) < (X.n : Int) := by omega
          have hw1 : IntKind.i64.wrap ((q : Int) + 1) = ((q + 1 : Nat) : Int) := by rw [IntWalk.i64_in _ (by omega)]; rfl
          have HN := Lib.hid (show coverK X (q + 1) G = upI (coverK X q G) (y * 8 + x) (X.col + 1) by rw [HNX.out q, hfx, hfy]; rfl)
          have HP := Lib.hid (map_put HMD.out hx8 hy8 (X.col + 1))
          rw [← HN.out] at HP
          have HK := Lib.hid (ky_one x y hx8 hy8)
          have HPE := Lib.hid (plainElem_int (H := Unit) Tryz.underlying24 HWF.out)
          have hcm : cn < maxLen := by unfold maxLen; omega
          clear hfx hfy hc2' HXY HTT HNX HZ0 HMD hr1 HN
          go_wp2
          refine wp_region_still_tail 8 (by kernel_rfl) (by kernel_rfl) ?_
          simp only [List.take_succ_cons, List.take_zero, List.drop_succ_cons, List.drop_zero, World.drew_eq]
          repeat (refine wpStill_step (fun K hK => ?_); go_simp; refine hK _ ?_; clear hK K)
          try refine wpStill_nil ?_
          go_wp2_with (at_mapUpdate; refine wpList_mapUpdate_own _ rfl _ _ _ 135 rfl 59 24 spot_keys Tryz.underlying135 (plainElem Tryz.prog 24) (w.heap.size + 1) cn E rfl (own_map_below HMP.out (by repeat' (first | with_reducible exact Below.refl _ _ | with_reducible assumption | with_reducible refine Below.drew ?_ | with_reducible refine Below.drewN ?_ _ | with_reducible refine Below.alloc ?_ ?_ _ | with_reducible refine Below.setCell ?_ ?_ _ | with_reducible refine Below.setRow ?_ ?_ _ | with_reducible refine below_step (by assumption) ?_ ?_ | (show (_ : Nat) ≤ _; first | omega | (simp <;> omega))))) hcm _ _ _ rfl rfl HK.out _ [] HPE.out ?_; intro w1 hown1 hgrow1)
          have r1 : ∀ b, b < wr.heap.size → b ≠ w.heap.size + 1 → rowOf w1 b = rowOf wr b := fun b h1 h2 => by
            rw [grown_rowM hgrow1 (by first | omega | (simp <;> omega)) h2]
            exact keep_row (show Below wr.heap.size wr _ by repeat' (first | with_reducible exact Below.refl _ _ | with_reducible assumption | with_reducible refine Below.drew ?_ | with_reducible refine Below.drewN ?_ _ | with_reducible refine Below.alloc ?_ ?_ _ | with_reducible refine Below.setCell ?_ ?_ _ | with_reducible refine Below.setRow ?_ ?_ _ | with_reducible refine below_step (by assumption) ?_ ?_ | (show (_ : Nat) ≤ _; first | omega | (simp <;> omega)))) h1
          have hbg : Below w.heap.size w w1 := below_grown (show Below w.heap.size w _ by repeat' (first | with_reducible exact Below.refl _ _ | with_reducible assumption | with_reducible refine Below.drew ?_ | with_reducible refine Below.drewN ?_ _ | with_reducible refine Below.alloc ?_ ?_ _ | with_reducible refine Below.setCell ?_ ?_ _ | with_reducible refine Below.setRow ?_ ?_ _ | with_reducible refine below_step (by assumption) ?_ ?_ | (show (_ : Nat) ≤ _; first | omega | (simp <;> omega)))) hgrow1 (fun k hk => by have := Option.some.inj hk; omega) (by first | omega | (simp <;> omega))
          have hr0' := (r1 w.heap.size (by omega) (by omega)).trans hr0
          have hr2' := (r1 (w.heap.size + 2) (by omega) (by omega)).trans hr2
          have hszw : wr.heap.size ≤ w1.heap.size := by have := hgrow1.size; simp at this; omega
          have HO1 := Lib.hid hown1
          have HB := Lib.hid hbg
          clear hown1 hgrow1 r1 hbg
          go_wp2
          go_roundw
          case rel => first | exact ⟨q + 1, cn + 1, E.put (kyL x y) (.lit (.int .i8 (X.col + 1))), by omega, by go_num, HB.out, by omega, by (go_simp <;> (intros; omega)), by (go_simp <;> (intros; omega)), HO1.out, by omega, HP.out⟩ | ((repeat (with_reducible apply Exists.intro)); refine And.intro ?_ ?_; rotate_left; (focus ((repeat' (with_reducible apply And.intro)) <;> rfl)); exact ⟨q + 1, cn + 1, E.put (kyL x y) (.lit (.int .i8 (X.col + 1))), by omega, by go_num, HB.out, by omega, by (go_simp <;> (intros; omega)), by (go_simp <;> (intros; omega)), HO1.out, by omega, HP.out⟩)
          case measure => simp [intOf] <;> omega
        · have hqe : q = X.n := by omega
          subst hqe
          go_wp2
          go_roundw
          case rel => first | exact ⟨k + 1, cn, E, by omega, by go_num, by repeat' (first | with_reducible exact Below.refl _ _ | with_reducible assumption | with_reducible refine Below.drew ?_ | with_reducible refine Below.drewN ?_ _ | with_reducible refine Below.alloc ?_ ?_ _ | with_reducible refine Below.setCell ?_ ?_ _ | with_reducible refine Below.setRow ?_ ?_ _ | with_reducible refine below_step (by assumption) ?_ ?_ | (show (_ : Nat) ≤ _; first | omega | (simp <;> omega))), by first | omega | (simp <;> omega), by (go_simp <;> (intros; omega)), by (go_simp <;> (intros; omega)), HMP.out, by omega, by rw [HG.out]; exact HMD.out⟩ | ((repeat (with_reducible apply Exists.intro)); refine And.intro ?_ ?_; rotate_left; (focus ((repeat' (with_reducible apply And.intro)) <;> rfl)); exact ⟨k + 1, cn, E, by omega, by go_num, by repeat' (first | with_reducible exact Below.refl _ _ | with_reducible assumption | with_reducible refine Below.drew ?_ | with_reducible refine Below.drewN ?_ _ | with_reducible refine Below.alloc ?_ ?_ _ | with_reducible refine Below.setCell ?_ ?_ _ | with_reducible refine Below.setRow ?_ ?_ _ | with_reducible refine below_step (by assumption) ?_ ?_ | (show (_ : Nat) ≤ _; first | omega | (simp <;> omega))), by first | omega | (simp <;> omega), by (go_simp <;> (intros; omega)), by (go_simp <;> (intros; omega)), HMP.out, by omega, by rw [HG.out]; exact HMD.out⟩)
          case measure => simp [intOf] <;> omega
    · have hke : k = l.length := by omega
      subst hke
      obtain ⟨G, hGG⟩ : ∃ G, pntG F l = G := ⟨_, rfl⟩
      have hMD := HMD.out
      rw [List.take_length, hGG] at hMD
      rw [hGG] at hgr
      have hHp : p < wr.heap.size := by omega
      have hrp := (keep_row hb hp).trans hr
      have HCL := Lib.hid (fun (w3 : World) (hb3 : Below wr.heap.size wr w3) x y (hx : x < W) (hy : y < H) (w2 : World) (hb2 : Below w3.heap.size w3 w2) => by
        have hb4 : Below wr.heap.size wr w2 := hb3.trans (hb2.mono hb3.size)
        have hs4 := hb4.size
        exact paint1_any p c hfc x y (by omega) (by omega) w.heap.size (w.heap.size + 2) (w.heap.size + 1) cnt D G hgr hMD w2 ((keep_row hb4 hHp).trans hrp) (by omega) ((keep_row hb4 (by omega)).trans hr0) (by omega) ((keep_row hb4 (by omega)).trans hr2) (by omega) (own_map_below HMP.out hb4))
      have HLN := Lib.hid (fun (w3 : World) (hb3 : Below wr.heap.size wr w3) => by
        have := linesP_any p c (fun x y => [chP c G x y]) [] (by decide) W H hW hH W8 H8 W0 (fun x j => by simp) w3 ((keep_row hb3 hHp).trans hrp) (by have := hb3.size; omega) (.pointer (some ⟨w.heap.size, 0, none⟩)) (.pointer (some ⟨w.heap.size + 2, 0, none⟩)) (HCL.out w3 hb3)
        rw [lines_bytes] at this
        exact this)
      have hlen := linesTx_len (cell := fun x y => [chP c G x y]) (sep := []) (m := 1000) (by decide) (W := W) (y := H) (fun x j _ _ => by simp)
      rw [lines_bytes] at hlen
      have hlen2 : (endl (linB (chP c G) W H)).length ≤ 8009 * H := Nat.le_trans hlen (Nat.mul_le_mul_right _ (by omega))
      have hlen3 : (endl (linB (chP c G) W H)).length ≤ 1048576 := by omega
      have HTR := Lib.hid (fun w => trim_is (endl (linB (chP c G) W H)) ▸ Tryz.strings_TrimSuffix (tx (endl (linB (chP c G) W H))) (tx [10]) w (by rw [tx_size]; omega))
      have HSP := Lib.hid (fun w h => split_own (trim (endl (linB (chP c G) W H))) (linB (chP c G) W H) H (linB_len _ _ _) (lin_split (fun x y => chP_no) H0) (Nat.le_trans (trim_len _) hlen3) (by omega) w h)
      have HPS := Lib.hid (show pntG F l = G from hGG)
      clear hMD hgr hlen hlen2 hlen3 HMD HMP HCL hGG
      go_wp2_with (first | (go_at_call 90; refine (HLN.out _ (by repeat' (first | with_reducible exact Below.refl _ _ | with_reducible assumption | with_reducible refine Below.drew ?_ | with_reducible refine Below.drewN ?_ _ | with_reducible refine Below.alloc ?_ ?_ _ | with_reducible refine Below.setCell ?_ ?_ _ | with_reducible refine Below.setRow ?_ ?_ _ | with_reducible refine below_step (by assumption) ?_ ?_ | (show (_ : Nat) ≤ _; first | omega | (simp <;> omega))))).mono ?_; rintro e w1 ⟨rfl, hb1⟩; have r_hb1 := keep_rowA hb1; have f_hb1 := keep_frA hb1; have s_hb1 := hb1.size; (try simp only [World.size_alloc, World.size_setCell, setRow_size, World.size_drew, size_drewNm] at r_hb1 f_hb1 s_hb1)) | (go_at_call 92; refine (HTR.out _).mono ?_; rintro e w2 ⟨rfl, rfl⟩) | (go_at_call 63; refine (HSP.out _ (HM.out.below (by repeat' (first | with_reducible exact Below.refl _ _ | with_reducible assumption | with_reducible refine Below.drew ?_ | with_reducible refine Below.drewN ?_ _ | with_reducible refine Below.alloc ?_ ?_ _ | with_reducible refine Below.setCell ?_ ?_ _ | with_reducible refine Below.setRow ?_ ?_ _ | with_reducible refine below_step (by assumption) ?_ ?_ | (show (_ : Nat) ≤ _; first | omega | (simp <;> omega)))))).mono ?_; rintro e w3 ⟨v3, rfl, hown, hb3⟩; have r_hb3 := keep_rowA hb3; have f_hb3 := keep_frA hb3; have s_hb3 := hb3.size; (try simp only [World.size_alloc, World.size_setCell, setRow_size, World.size_drew, size_drewNm] at r_hb3 f_hb3 s_hb3); have HO := Lib.hid hown; clear hown))
      go_ret
      exact ⟨_, rfl, by rw [HPS.out]; exact owns_downP HO.out (by omega), by repeat' (first | with_reducible exact Below.refl _ _ | with_reducible assumption | with_reducible refine Below.drew ?_ | with_reducible refine Below.drewN ?_ _ | with_reducible refine Below.alloc ?_ ?_ _ | with_reducible refine Below.setCell ?_ ?_ _ | with_reducible refine Below.setRow ?_ ?_ _ | with_reducible refine below_step (by assumption) ?_ ?_ | (show (_ : Nat) ≤ _; first | omega | (simp <;> omega)))⟩
end Go.Proofs.YtejnejplofddnaaGreatDoor
