/- What marks show in an order: the reference. -/
import Derived.Test.YtejnejplofddnaaGreatDoorCov
import Derived.Test.YtejnejplofddnaaGreatDoorSheetOk
import Derived.Test.YtejnejplofddnaaGreatDoorWaterI
import Derived.Test.YtejnejplofddnaaGreatDoorHeld
import Derived.Test.YtejnejplofddnaaGreatDoorGqB
import Derived.Test.YtejnejplofddnaaGreatDoorGqS
import Derived.Laws.IdiomStrings
import Derived.StillTailTactics
namespace Go.Proofs.YtejnejplofddnaaGreatDoor
open Go.RowKit
set_option linter.unusedVariables false
set_option linter.unusedSimpArgs false
set_option maxRecDepth 100000
abbrev gk : Nat → IntKind := fun _ => .i8
/-- A mark that can be laid over a grid. -/
def MkLay (x : Mk) : Prop := (0 ≤ x.col ∧ x.col ≤ 2) ∧ x.n ≤ 64 ∧ ∀ j, j < x.n → ∃ a b : Nat, a < 8 ∧ b < 8 ∧ x.f (j * 2) = a ∧ x.f (j * 2 + 1) = b
def nl (l : List Nat) (j : Nat) : Int := ((l.getD j 0 : Nat) : Int)
theorem nl_at {l : List Nat} {k i : Nat} (h : l[k]? = some i) : nl l k = (i : Int) := by unfold nl; rw [List.getD_eq_getElem?_getD, h]; rfl
theorem take_snoc {α : Type} {l : List α} {k : Nat} {i : α} (h : l[k]? = some i) : l.take (k + 1) = l.take k ++ [i] := by rw [List.take_add_one, h]; rfl
def byV (l : List UInt8) : List Value := l.map fun b => .int .u8 (b.toNat : Int)
theorem byV_snoc (l : List UInt8) (b : UInt8) : byV (l ++ [b]) = byV l ++ [.int .u8 (b.toNat : Int)] := by unfold byV; rw [List.map_append]; rfl
theorem byV_row {w : World} {base n g cap : Nat} {e : TypeId} {l : List UInt8} (hl : l.length = n) (h : w.ownsRow base e 1 (.slice (some ⟨g, 0, none⟩) n cap) n (byV l)) : ∀ j (hj : j < l.length), w.cell? ((⟨g, 0, none⟩ : Addr).add j) = some (.int .u8 (l[j].toNat : Int)) := by
  obtain ⟨hl', ⟨h0, -⟩ | ⟨g', cap', cur, e0, hb, hg, h1, h2, h3, ht⟩⟩ := h
  · cases h0
  · cases e0
    intro j hj
    have hrow : rowOf w g = cur := by simp [rowOf, hg, objRow]
    have hadd : (⟨g, 0, none⟩ : Addr).add j = ⟨g, j, none⟩ := by unfold Addr.add; split <;> simp_all
    rw [hadd, cell_row, hrow, ← Array.getElem?_toList]
    have e : (cur.toList.take (n * 1))[j]? = (byV l)[j]? := by rw [ht]
    rw [List.getElem?_take, if_pos (by omega)] at e
    rw [e]
    unfold byV
    rw [List.getElem?_map, List.getElem?_eq_getElem hj]; rfl
theorem lin_next (ch : Nat → Nat → UInt8) (W y : Nat) : linB ch W (y + 1) = linB ch W y ++ [rowB ch y W] := rfl
theorem rowB_next (ch : Nat → Nat → UInt8) (y x : Nat) : rowB ch y (x + 1) = rowB ch y x ++ [ch x y] := rfl
theorem strV_snocP (D : List (List UInt8)) (x : List UInt8) : strV (D ++ [x]) = strV D ++ [.string (tx x)] := by unfold strV; rw [List.map_append]; rfl
theorem ch_wax {c g : Nat → Int} {x y : Nat} (h : waxS c x y = true) : chP c g x y = 119 := by unfold chP; rw [if_pos h]
theorem ch_dry {c g : Nat → Int} {x y : Nat} {v : Int} (h : waxS c x y = false) (hv : g (y * 8 + x) = v) : chP c g x y = shP v := by unfold chP; rw [h, hv, if_neg (by decide)]
theorem owns_downP {w : World} {base b' n s : Nat} {e : TypeId} {v : Value} {xs : List Value} (h : w.ownsRow base e s v n xs) (hb : b' ≤ base) : w.ownsRow b' e s v n xs := by
  obtain ⟨hl, h | ⟨g, cap, cur, h0, h1, h2⟩⟩ := h
  · exact ⟨hl, .inl h⟩
  · exact ⟨hl, .inr ⟨g, cap, cur, h0, by omega, h2⟩⟩
theorem owns_posP {w : World} {base n s : Nat} {e : TypeId} {v : Value} {xs : List Value} (h : w.ownsRow base e s v n xs) (h0 : 0 < n) : ∃ g cap, v = .slice (some ⟨g, 0, none⟩) n cap ∧ base ≤ g ∧ g < w.heap.size := by
  obtain ⟨hl, ⟨rfl, rfl⟩ | ⟨g, cap, cur, rfl, hb, hg, -⟩⟩ := h
  · omega
  · exact ⟨g, cap, rfl, hb, (Array.getElem?_eq_some_iff.1 hg).1⟩
@[go_sem] theorem dabc_0 (h : 0 < (ByteArray.mk #[46, 97, 98, 99]).size) : (ByteArray.mk #[46, 97, 98, 99])[0]'h = 46 := rfl
@[go_sem] theorem dabc_1 (h : 1 < (ByteArray.mk #[46, 97, 98, 99]).size) : (ByteArray.mk #[46, 97, 98, 99])[1]'h = 97 := rfl
@[go_sem] theorem dabc_2 (h : 2 < (ByteArray.mk #[46, 97, 98, 99]).size) : (ByteArray.mk #[46, 97, 98, 99])[2]'h = 98 := rfl
@[go_sem] theorem dabc_3 (h : 3 < (ByteArray.mk #[46, 97, 98, 99]).size) : (ByteArray.mk #[46, 97, 98, 99])[3]'h = 99 := rfl
theorem u8_info : ∃ i z, Tryz.prog.info? 5 = some i ∧ i.zero = some z ∧ i.size = 1 ∧ i.bytes = 1 ∧ z.cells.size = 1 := by
  have h : (match Tryz.prog.info? 5 with | some i => (match i.zero with | some z => i.size == 1 && i.bytes == 1 && z.cells.size == 1 | none => false) | none => false) = true := by kernel_rfl
  split at h
  · rename_i i hi
    split at h
    · rename_i z hz
      simp only [Bool.and_eq_true, beq_iff_eq] at h
      exact ⟨i, z, hi, hz, h.1.1, h.1.2, h.2⟩
    · cases h
  · cases h
theorem size_grid8 : (Tryz.prog.info? 144).map (·.size) = some 64 := by kernel_rfl
@[go_sem ↓] theorem toStore_grid8 (a : Addr) (v : Value) : storeVar 144 a v = storeR 144 a v := rfl
@[go_sem] theorem store_grid8 (w : World) (b o : Nat) (vs : Array Value) : (storeR 144 ⟨b, o, none⟩ (.agg vs)).run Tryz.prog w = storedRow Tryz.prog 144 64 w b o vs := run_store_rowA (P := Tryz.prog) 144 64 (by omega) size_grid8 w b o vs
@[go_sem ↓] theorem zero_grid8 (w : World) : (zeroValue 144).run Tryz.prog w = .ok (.agg (kc gk 64 fun _ => 0)) w := by kernel_rfl
set_option maxHeartbeats 8000000 in
theorem l06Paint_any (p : Nat) (c : Nat → Int) (hfc : FitSheet c) (W H : Nat) (hW : c 0 = W) (hH : c 1 = H) (W0 : 0 < W) (W8 : W ≤ 8) (H8 : H ≤ 8) (v : Value) (n b : Nat) (F : Nat → Mk) (hn : n ≤ 1048576) (hF : ∀ k, k < n → MkLay (F k)) (lv : Value) (bl : Nat) (l : List Nat) (hl : l.length ≤ 1048576) (hli : ∀ i ∈ l, i < n) (w : World) (hr : rowOf w p = kc sk 266 c) (hp : p < w.heap.size) (h : OwnM w b v n F) (hlv : OwnK .i64 1 w bl lv l.length (nl l)) :
    Calls Tryz.prog 46 #[.pointer (some ⟨p, 0, none⟩), v, lv] w fun e w' => ∃ v', e = .returned v' ∧ w'.ownsRow w.heap.size 9 1 v' H (strV (linB (chP c (pntG F l)) W H)) ∧ Below w.heap.size w w' := by
  have HH := Lib.hid h
  have HF := Lib.hid hF
  have HL := Lib.hid hlv
  have HLI := Lib.hid hli
  have hgr := pnt_in (F := F) (l := l) (fun i hi => (hF i (hli i hi)).1)
  obtain ⟨a, cap, rfl⟩ := h.1.len
  obtain ⟨al, cl, rfl⟩ := hlv.len
  clear h hF hlv hli
  go_enter Tryz.func46, Tryz.ntmps46
  go_wp2
  go_loopw [8] (fun i wr => ∃ k : Nat, k ≤ l.length ∧ i = .int .i64 k ∧ Below w.heap.size w wr ∧ w.heap.size + 1 ≤ wr.heap.size ∧ rowOf wr w.heap.size = kc gk 64 (pntG F (l.take k)) ∧ frOf wr w.heap.size = (0, 0)) (fun i wr => l.length + 1 - (intOf i).toNat)
  case atStart => exact ⟨0, by omega, rfl, Below.setRow (Below.alloc (Below.refl _ _) (Nat.le_refl _) _) (Nat.le_refl _) _, by simp, (by show rowOf _ _ = kc gk 64 (fun _ => 0); (go_simp <;> (intros; omega))), by (go_simp <;> (intros; omega))⟩
  case round =>
    obtain ⟨k, hk, rfl, hb, hsz, hrG, hfG⟩ := hrel
    have hsz0 := hb.size
    by_cases hlt : k < l.length
    · obtain ⟨lg, lcap, hv, -, hlg, -, hlR, hlc⟩ := HL.out.pos (by omega)
      simp only [Value.slice.injEq] at hv
      obtain ⟨rfl, -, rfl⟩ := hv
      obtain ⟨i, hi⟩ : ∃ i, l[k]? = some i := ⟨_, List.getElem?_eq_getElem hlt⟩
      have hin : i < n := HLI.out i (List.mem_of_getElem? hi)
      have e0 := hlc k (by omega)
      rw [nl_at hi, ← keep_row hb hlg] at e0
      have hlgw : lg < wr.heap.size := by omega
      obtain ⟨g, cap', hv, -, hg, -, hRs, hcells⟩ := HH.out.1.pos (by omega)
      simp only [Value.slice.injEq] at hv
      obtain ⟨rfl, -, rfl⟩ := hv
      have he := mk_ext2 (o := 0) (fun j hj => by rw [Nat.zero_add]; exact hcells i hin j hj)
      rw [Nat.zero_add] at he
      obtain ⟨R, hR⟩ : ∃ R, rowOf w g = R := ⟨_, rfl⟩
      have hr1 := (keep_row hb hg).trans hR
      rw [hR] at he hRs
      have hRk : i * 2 + 2 ≤ R.size := by omega
      have hgw : g < wr.heap.size := by omega
      have hin2 : (i : Int) < (n : Int) := by omega
      have hlt2 : (k : Int) < (l.length : Int) := by omega
      have hT := HH.out.2 i hin
      obtain ⟨⟨hc0, hc2⟩, hn64, hxy⟩ := HF.out i hin
      have HG := Lib.hid (show pntG F (l.take (k + 1)) = coverK (F i) (F i).n (pntG F (l.take k)) by rw [take_snoc hi, pntG_snoc])
      have hwc : IntKind.i8.wrap ((F i).col + 1) = (F i).col + 1 := by simp only [IntKind.wrap, IntKind.bits, IntKind.signed]; simp; omega
      obtain ⟨X, hX⟩ : ∃ X, F i = X := ⟨_, rfl⟩
      rw [hX] at he hT hc0 hc2 hn64 hxy HG hwc
      generalize pntG F (l.take k) = G at *
      obtain ⟨wo, rfl⟩ : ∃ wo, wo = wr := ⟨_, rfl⟩
      have hkw : IntKind.i64.wrap ((k : Int) + 1) = ((k + 1 : Nat) : Int) := by rw [IntWalk.i64_in _ (by omega)]; rfl
      have hT' := hT.below hb (Nat.le_refl _)
      have HXY := Lib.hid hxy
      have HTT := Lib.hid hT
      obtain ⟨ak, ck, hvk⟩ := hT.len
      rw [hvk] at he
      clear hcells hT hxy hR hlc hT' hX
      have HNX := Lib.hid (coverK_next X · G)
      have HZ0 := Lib.hid (coverK_zero X G)
      go_wp2
      go_loopw [10] (fun i wx => ∃ q : Nat, q ≤ X.n ∧ i = .int .i64 q ∧ Below w.heap.size w wx ∧ wo.heap.size + 1 ≤ wx.heap.size ∧ rowOf wx w.heap.size = kc gk 64 (coverK X q G) ∧ frOf wx w.heap.size = (0, 0) ∧ rowOf wx wo.heap.size = #[.int .i8 X.col, .slice ak X.n ck]) (fun i wx => X.n + 1 - (intOf i).toNat)
      case atStart => exact ⟨0, by omega, rfl, by repeat' (first | with_reducible exact Below.refl _ _ | with_reducible assumption | with_reducible refine Below.drew ?_ | with_reducible refine Below.drewN ?_ _ | with_reducible refine Below.alloc ?_ ?_ _ | with_reducible refine Below.setCell ?_ ?_ _ | with_reducible refine Below.setRow ?_ ?_ _ | with_reducible refine below_step (by assumption) ?_ ?_ | (show (_ : Nat) ≤ _; first | omega | (simp <;> omega))), by simp, by rw [HZ0.out]; (go_simp <;> (intros; omega)), by (go_simp <;> (intros; omega)), by (go_simp <;> (intros; omega))⟩
      case round =>
        clear hb hrG hfG
        obtain ⟨q, hq, rfl, hb, hsz2, hrG, hfG, hrM⟩ := hrel
        have hsz1 := hb.size
        by_cases hqlt : q < X.n
        · obtain ⟨g2, cap2, hv2, -, hg2, -, hRs2, hc2'⟩ := HTT.out.pos (by omega)
          rw [hvk] at hv2
          simp only [Value.slice.injEq] at hv2
          obtain ⟨rfl, -, rfl⟩ := hv2
          obtain ⟨x, y, hx8, hy8, hfx, hfy⟩ := HXY.out q hqlt
          have e1 := hc2' (q * 2) (by omega)
          have e2 := hc2' (q * 2 + 1) (by omega)
          rw [hfx, ← keep_row hb hg2] at e1
          rw [hfy, ← keep_row hb hg2] at e2
          have hR2s : q * 2 + 2 ≤ (rowOf wr g2).size := by rw [keep_row hb hg2]; omega
          obtain ⟨R2, hR2⟩ : ∃ R2, rowOf wr g2 = R2 := ⟨_, rfl⟩
          rw [hR2] at e1 e2 hR2s
          have hg2w : g2 < wr.heap.size := by omega
          have hq2 : (q : Int) < (X.n : Int) := by omega
          have hxi : (x : Int) < 8 := by omega
          have hyi : (y : Int) < 8 := by omega
          have hw1 : IntKind.i64.wrap ((q : Int) + 1) = ((q + 1 : Nat) : Int) := by rw [IntWalk.i64_in _ (by omega)]; rfl
          have HN := Lib.hid (show coverK X (q + 1) G = upI (coverK X q G) (y * 8 + x) (X.col + 1) by rw [HNX.out q, hfx, hfy]; rfl)
          generalize coverK X q G = G2 at *
          generalize X.col = col at *
          generalize X.n = m at *
          clear hfx hfy hc2'
          clear HXY HTT HNX HZ0
          go_wp2
          refine wp_region_still_tail 17 (by kernel_rfl) (by kernel_rfl) ?_
          simp only [List.take_succ_cons, List.take_zero, List.drop_succ_cons, List.drop_zero, World.drew_eq]
          repeat (refine wpStill_step (fun K hK => ?_); go_simp; refine hK _ ?_; clear hK K)
          try refine wpStill_nil ?_
          go_wp2
          go_roundw
          case rel => first | exact ⟨q + 1, by omega, by go_num, by repeat' (first | with_reducible exact Below.refl _ _ | with_reducible assumption | with_reducible refine Below.drew ?_ | with_reducible refine Below.drewN ?_ _ | with_reducible refine Below.alloc ?_ ?_ _ | with_reducible refine Below.setCell ?_ ?_ _ | with_reducible refine Below.setRow ?_ ?_ _ | with_reducible refine below_step (by assumption) ?_ ?_ | (show (_ : Nat) ≤ _; first | omega | (simp <;> omega))), by first | omega | (simp <;> omega), by rw [HN.out]; (go_simp <;> (intros; omega)), by (go_simp <;> (intros; omega)), by (go_simp <;> (intros; omega))⟩ | ((repeat (with_reducible apply Exists.intro)); refine And.intro ?_ ?_; rotate_left; (focus ((repeat' (with_reducible apply And.intro)) <;> rfl)); exact ⟨q + 1, by omega, by go_num, by repeat' (first | with_reducible exact Below.refl _ _ | with_reducible assumption | with_reducible refine Below.drew ?_ | with_reducible refine Below.drewN ?_ _ | with_reducible refine Below.alloc ?_ ?_ _ | with_reducible refine Below.setCell ?_ ?_ _ | with_reducible refine Below.setRow ?_ ?_ _ | with_reducible refine below_step (by assumption) ?_ ?_ | (show (_ : Nat) ≤ _; first | omega | (simp <;> omega))), by first | omega | (simp <;> omega), by rw [HN.out]; (go_simp <;> (intros; omega)), by (go_simp <;> (intros; omega)), by (go_simp <;> (intros; omega))⟩)
          case measure => simp [intOf] <;> omega
        · have hqe : q = X.n := by omega
          subst hqe
          go_wp2
          go_roundw
          case rel => first | exact ⟨k + 1, by omega, by go_num, by repeat' (first | with_reducible exact Below.refl _ _ | with_reducible assumption | with_reducible refine Below.drew ?_ | with_reducible refine Below.drewN ?_ _ | with_reducible refine Below.alloc ?_ ?_ _ | with_reducible refine Below.setCell ?_ ?_ _ | with_reducible refine Below.setRow ?_ ?_ _ | with_reducible refine below_step (by assumption) ?_ ?_ | (show (_ : Nat) ≤ _; first | omega | (simp <;> omega))), by first | omega | (simp <;> omega), by rw [HG.out]; (go_simp <;> (intros; omega)), by (go_simp <;> (intros; omega))⟩ | ((repeat (with_reducible apply Exists.intro)); refine And.intro ?_ ?_; rotate_left; (focus ((repeat' (with_reducible apply And.intro)) <;> rfl)); exact ⟨k + 1, by omega, by go_num, by repeat' (first | with_reducible exact Below.refl _ _ | with_reducible assumption | with_reducible refine Below.drew ?_ | with_reducible refine Below.drewN ?_ _ | with_reducible refine Below.alloc ?_ ?_ _ | with_reducible refine Below.setCell ?_ ?_ _ | with_reducible refine Below.setRow ?_ ?_ _ | with_reducible refine below_step (by assumption) ?_ ?_ | (show (_ : Nat) ≤ _; first | omega | (simp <;> omega))), by first | omega | (simp <;> omega), by rw [HG.out]; (go_simp <;> (intros; omega)), by (go_simp <;> (intros; omega))⟩)
          case measure => simp [intOf] <;> omega
    · have hke : k = l.length := by omega
      subst hke
      rw [List.take_length] at hrG
      have HLM := Lib.hid (fun x y : Nat => hgr (y * 8 + x))
      have HCV := Lib.hid (fun (w : World) (g cap n : Nat) (L : List UInt8) (hn : L.length = n) (h : ∀ j (hj : j < L.length), w.cell? ((⟨g, 0, none⟩ : Addr).add j) = some (.int .u8 (L[j].toNat : Int))) => hn ▸ run_convert_bytes_back (P := Tryz.prog) w 22 9 5 ⟨g, 0, none⟩ cap L Tryz.underlying22 Tryz.underlying5 Tryz.underlying9 h)
      obtain ⟨i1, z1, hi1, hz1, hs1, hb1, hc1⟩ := u8_info
      have HI1 := Lib.hid (And.intro hi1 (And.intro hz1 (And.intro hs1 (And.intro hb1 hc1))))
      obtain ⟨i0, z0, hi0, hz0, hs0, hb0, hc0⟩ := str_info
      have HI := Lib.hid (And.intro hi0 (And.intro hz0 (And.intro hs0 (And.intro hb0 hc0))))
      clear hi1 hz1 hs1 hb1 hc1 hi0 hz0 hs0 hb0 hc0 hgr
      generalize hGG : pntG F l = G at *
      have HCW := Lib.hid (fun x y (h : waxS c x y = true) => ch_wax (g := G) h)
      have HCD := Lib.hid (fun x y v (h : waxS c x y = false) hv => ch_dry (g := G) (x := x) (y := y) (v := v) h hv)
      go_wp2
      go_loopw [12, 11] (fun i v wx => ∃ y : Nat, y ≤ H ∧ i = .int .i8 y ∧ Below w.heap.size w wx ∧ w.heap.size + 1 ≤ wx.heap.size ∧ rowOf wx w.heap.size = kc gk 64 G ∧ wx.ownsRow (w.heap.size + 1) 9 1 v y (strV (linB (chP c G) W y))) (fun i v wx => H + 1 - (intOf i).toNat)
      case atStart => exact ⟨0, by omega, rfl, by repeat' (first | with_reducible exact Below.refl _ _ | with_reducible assumption | with_reducible refine Below.drew ?_ | with_reducible refine Below.drewN ?_ _ | with_reducible refine Below.alloc ?_ ?_ _ | with_reducible refine Below.setCell ?_ ?_ _ | with_reducible refine Below.setRow ?_ ?_ _ | with_reducible refine below_step (by assumption) ?_ ?_ | (show (_ : Nat) ≤ _; first | omega | (simp <;> omega))), by first | omega | (simp <;> omega), by (go_simp <;> (intros; omega)), owns_downP (owns_empty1 _ _) (by omega)⟩
      case round =>
        clear hb hrG hfG hsz
        obtain ⟨y, hy, rfl, hb, hsz, hrG, hown⟩ := hrel
        have HO := Lib.hid hown
        have hsz1 := hb.size
        clear hown
        have hpr := (keep_row hb hp).trans hr
        have hpw : p < wr.heap.size := by omega
        by_cases hyl : y < H
        · have hyi : (y : Int) < (H : Int) := by omega
          have hyi8 : (y : Int) < 8 := by omega
          have hw1 : IntKind.i8.wrap ((y : Int) + 1) = ((y + 1 : Nat) : Int) := by simp only [IntKind.wrap, IntKind.bits, IntKind.signed]; simp; omega
          obtain ⟨wo, rfl⟩ : ∃ wo, wo = wr := ⟨_, rfl⟩
          go_wp2
          go_loopw [14, 13] (fun i v wx => ∃ x : Nat, x ≤ W ∧ i = .int .i8 x ∧ Below wo.heap.size wo wx ∧ wx.ownsRow wo.heap.size 5 1 v x (byV (rowB (chP c G) y x))) (fun i v wx => W + 1 - (intOf i).toNat)
          case atStart => exact ⟨0, by omega, rfl, by repeat' (first | with_reducible exact Below.refl _ _ | with_reducible assumption | with_reducible refine Below.drew ?_ | with_reducible refine Below.drewN ?_ _ | with_reducible refine Below.alloc ?_ ?_ _ | with_reducible refine Below.setCell ?_ ?_ _ | with_reducible refine Below.setRow ?_ ?_ _ | with_reducible refine below_step (by assumption) ?_ ?_ | (show (_ : Nat) ≤ _; first | omega | (simp <;> omega))), owns_empty1 _ _⟩
          case round =>
            obtain ⟨x, hx, rfl, hb2, hown⟩ := hrel
            have HO2 := Lib.hid hown
            have hsz2 := hb2.size
            clear hown
            have hpr2 := (keep_row hb2 hpw).trans hpr
            have hpw2 : p < wr.heap.size := by omega
            have hrG2 := (keep_row hb2 (show w.heap.size < wo.heap.size by omega)).trans hrG
            have hgw2 : w.heap.size < wr.heap.size := by omega
            by_cases hxl : x < W
            · have hxi : (x : Int) < (W : Int) := by omega
              have hxi8 : (x : Int) < 8 := by omega
              have hw2 : IntKind.i8.wrap ((x : Int) + 1) = ((x + 1 : Nat) : Int) := by simp only [IntKind.wrap, IntKind.bits, IntKind.signed]; simp; omega
              have HX0 := fun w h1 h2 => l01Waxed_any p c hfc x y (by omega) (by omega) w h1 h2
              have hgv := HLM.out x y
              obtain ⟨v, hv⟩ : ∃ v, G (y * 8 + x) = v := ⟨_, rfl⟩
              have HQ0 := byV_snoc (rowB (chP c G) y x) (chP c G x y)
              rw [← rowB_next] at HQ0
              rcases Bool.eq_false_or_eq_true (waxS c x y) with h1 | h1
              · rw [h1] at HX0
                rw [HCW.out x y h1] at HQ0
                have HX := Lib.hid HX0
                have HQ := Lib.hid (show byV (rowB (chP c G) y (x + 1)) = byV (rowB (chP c G) y x) ++ [.int .u8 119] from HQ0)
                clear HX0 HQ0 h1
                go_wp2_with (first | (go_at_call 74; refine (HX.out _ (by (go_simp <;> (intros; omega))) (by first | omega | (simp <;> omega))).mono ?_; rintro e wc ⟨rfl, hbc⟩; have r_hbc := keep_rowA hbc; have f_hbc := keep_frA hbc; have s_hbc := hbc.size; (try simp only [World.size_alloc, World.size_setCell, setRow_size, World.size_drew, size_drewNm] at r_hbc f_hbc s_hbc)) | (at_builtin; refine wpList_append_own _ rfl _ _ 22 rfl wo.heap.size 5 i1 z1 1 1 Tryz.underlying22 HI1.out.1 HI1.out.2.1 HI1.out.2.2.1 HI1.out.2.2.2.1 HI1.out.2.2.2.2 (by decide) _ _ _ rfl ((owns_below HO2.out (by repeat' (first | with_reducible exact Below.refl _ _ | with_reducible assumption | with_reducible refine Below.drew ?_ | with_reducible refine Below.drewN ?_ _ | with_reducible refine Below.alloc ?_ ?_ _ | with_reducible refine Below.setCell ?_ ?_ _ | with_reducible refine Below.setRow ?_ ?_ _ | with_reducible refine below_step (by assumption) ?_ ?_ | (show (_ : Nat) ≤ _; first | omega | (simp <;> omega))))).alloc _) ⟨wc.heap.size, 0, none⟩ 1 1 [.int .u8 119] rfl rfl ?c1 ?c2 ?c3 ?c4 ?c5 ?_))
                case c1 =>
                  intro j u hj
                  match j, hj with
                  | 0, hj => simp at hj; subst hj; simp [Addr.add]
                case c2 => intro u hu; simp at hu; subst hu; rfl
                case c3 => unfold maxLen; omega
                case c4 => omega
                case c5 => first | omega | (simp <;> omega)
                intro v' w2 hown' hgrow _
                have hbg : Below wo.heap.size wo w2 := below_grown (Below.alloc (by repeat' (first | with_reducible exact Below.refl _ _ | with_reducible assumption | with_reducible refine Below.drew ?_ | with_reducible refine Below.drewN ?_ _ | with_reducible refine Below.alloc ?_ ?_ _ | with_reducible refine Below.setCell ?_ ?_ _ | with_reducible refine Below.setRow ?_ ?_ _ | with_reducible refine below_step (by assumption) ?_ ?_ | (show (_ : Nat) ≤ _; first | omega | (simp <;> omega)))) (by first | omega | (simp <;> omega)) _) hgrow (owns_base HO2.out) (by first | omega | (simp <;> omega))
                have HB := Lib.hid hbg
                rw [← HQ.out] at hown'
                have HW := Lib.hid hown'
                clear hbg hown' hgrow
                go_wp2
                go_roundw
                case rel => first | exact ⟨x + 1, by omega, by go_num, HB.out, HW.out⟩ | ((repeat (with_reducible apply Exists.intro)); refine And.intro ?_ ?_; rotate_left; (focus ((repeat' (with_reducible apply And.intro)) <;> rfl)); exact ⟨x + 1, by omega, by go_num, HB.out, HW.out⟩)
                case measure => simp [intOf]; omega
              · rw [h1] at HX0
                rw [HCD.out x y v h1 hv] at HQ0
                rw [hv] at hgv
                have HX := Lib.hid HX0
                have HV := Lib.hid hv
                clear HX0 h1 hv
                have hv4 : v = 0 ∨ v = 1 ∨ v = 2 ∨ v = 3 := by omega
                clear hgv
                have hgx : (kc gk 64 G)[y * 8 + x]? = some (.int .i8 v) := by rw [kc_get, if_pos (by omega), HV.out]
                rcases hv4 with rfl | hv4
                · have HQ := Lib.hid (show byV (rowB (chP c G) y (x + 1)) = byV (rowB (chP c G) y x) ++ [.int .u8 46] from HQ0)
                  clear HQ0
                  go_wp2_with (first | (go_at_call 74; refine (HX.out _ (by (go_simp <;> (intros; omega))) (by first | omega | (simp <;> omega))).mono ?_; rintro e wc ⟨rfl, hbc⟩; have r_hbc := keep_rowA hbc; have f_hbc := keep_frA hbc; have s_hbc := hbc.size; (try simp only [World.size_alloc, World.size_setCell, setRow_size, World.size_drew, size_drewNm] at r_hbc f_hbc s_hbc)) | (at_builtin; refine wpList_append_own _ rfl _ _ 22 rfl wo.heap.size 5 i1 z1 1 1 Tryz.underlying22 HI1.out.1 HI1.out.2.1 HI1.out.2.2.1 HI1.out.2.2.2.1 HI1.out.2.2.2.2 (by decide) _ _ _ rfl ((owns_below HO2.out (by repeat' (first | with_reducible exact Below.refl _ _ | with_reducible assumption | with_reducible refine Below.drew ?_ | with_reducible refine Below.drewN ?_ _ | with_reducible refine Below.alloc ?_ ?_ _ | with_reducible refine Below.setCell ?_ ?_ _ | with_reducible refine Below.setRow ?_ ?_ _ | with_reducible refine below_step (by assumption) ?_ ?_ | (show (_ : Nat) ≤ _; first | omega | (simp <;> omega))))).alloc _) ⟨wc.heap.size, 0, none⟩ 1 1 [.int .u8 46] rfl rfl ?c1 ?c2 ?c3 ?c4 ?c5 ?_))
                  case c1 =>
                    intro j u hj
                    match j, hj with
                    | 0, hj => simp at hj; subst hj; simp [Addr.add]
                  case c2 => intro u hu; simp at hu; subst hu; rfl
                  case c3 => unfold maxLen; omega
                  case c4 => omega
                  case c5 => first | omega | (simp <;> omega)
                  intro v' w2 hown' hgrow _
                  have hbg : Below wo.heap.size wo w2 := below_grown (Below.alloc (by repeat' (first | with_reducible exact Below.refl _ _ | with_reducible assumption | with_reducible refine Below.drew ?_ | with_reducible refine Below.drewN ?_ _ | with_reducible refine Below.alloc ?_ ?_ _ | with_reducible refine Below.setCell ?_ ?_ _ | with_reducible refine Below.setRow ?_ ?_ _ | with_reducible refine below_step (by assumption) ?_ ?_ | (show (_ : Nat) ≤ _; first | omega | (simp <;> omega)))) (by first | omega | (simp <;> omega)) _) hgrow (owns_base HO2.out) (by first | omega | (simp <;> omega))
                  have HB := Lib.hid hbg
                  rw [← HQ.out] at hown'
                  have HW := Lib.hid hown'
                  clear hbg hown' hgrow
                  go_wp2
                  go_roundw
                  case rel => first | exact ⟨x + 1, by omega, by go_num, HB.out, HW.out⟩ | ((repeat (with_reducible apply Exists.intro)); refine And.intro ?_ ?_; rotate_left; (focus ((repeat' (with_reducible apply And.intro)) <;> rfl)); exact ⟨x + 1, by omega, by go_num, HB.out, HW.out⟩)
                  case measure => simp [intOf]; omega
                rcases hv4 with rfl | hv4
                · have HQ := Lib.hid (show byV (rowB (chP c G) y (x + 1)) = byV (rowB (chP c G) y x) ++ [.int .u8 97] from HQ0)
                  clear HQ0
                  go_wp2_with (first | (go_at_call 74; refine (HX.out _ (by (go_simp <;> (intros; omega))) (by first | omega | (simp <;> omega))).mono ?_; rintro e wc ⟨rfl, hbc⟩; have r_hbc := keep_rowA hbc; have f_hbc := keep_frA hbc; have s_hbc := hbc.size; (try simp only [World.size_alloc, World.size_setCell, setRow_size, World.size_drew, size_drewNm] at r_hbc f_hbc s_hbc)) | (at_builtin; refine wpList_append_own _ rfl _ _ 22 rfl wo.heap.size 5 i1 z1 1 1 Tryz.underlying22 HI1.out.1 HI1.out.2.1 HI1.out.2.2.1 HI1.out.2.2.2.1 HI1.out.2.2.2.2 (by decide) _ _ _ rfl ((owns_below HO2.out (by repeat' (first | with_reducible exact Below.refl _ _ | with_reducible assumption | with_reducible refine Below.drew ?_ | with_reducible refine Below.drewN ?_ _ | with_reducible refine Below.alloc ?_ ?_ _ | with_reducible refine Below.setCell ?_ ?_ _ | with_reducible refine Below.setRow ?_ ?_ _ | with_reducible refine below_step (by assumption) ?_ ?_ | (show (_ : Nat) ≤ _; first | omega | (simp <;> omega))))).alloc _) ⟨wc.heap.size, 0, none⟩ 1 1 [.int .u8 97] rfl rfl ?c1 ?c2 ?c3 ?c4 ?c5 ?_))
                  case c1 =>
                    intro j u hj
                    match j, hj with
                    | 0, hj => simp at hj; subst hj; simp [Addr.add]
                  case c2 => intro u hu; simp at hu; subst hu; rfl
                  case c3 => unfold maxLen; omega
                  case c4 => omega
                  case c5 => first | omega | (simp <;> omega)
                  intro v' w2 hown' hgrow _
                  have hbg : Below wo.heap.size wo w2 := below_grown (Below.alloc (by repeat' (first | with_reducible exact Below.refl _ _ | with_reducible assumption | with_reducible refine Below.drew ?_ | with_reducible refine Below.drewN ?_ _ | with_reducible refine Below.alloc ?_ ?_ _ | with_reducible refine Below.setCell ?_ ?_ _ | with_reducible refine Below.setRow ?_ ?_ _ | with_reducible refine below_step (by assumption) ?_ ?_ | (show (_ : Nat) ≤ _; first | omega | (simp <;> omega)))) (by first | omega | (simp <;> omega)) _) hgrow (owns_base HO2.out) (by first | omega | (simp <;> omega))
                  have HB := Lib.hid hbg
                  rw [← HQ.out] at hown'
                  have HW := Lib.hid hown'
                  clear hbg hown' hgrow
                  go_wp2
                  go_roundw
                  case rel => first | exact ⟨x + 1, by omega, by go_num, HB.out, HW.out⟩ | ((repeat (with_reducible apply Exists.intro)); refine And.intro ?_ ?_; rotate_left; (focus ((repeat' (with_reducible apply And.intro)) <;> rfl)); exact ⟨x + 1, by omega, by go_num, HB.out, HW.out⟩)
                  case measure => simp [intOf]; omega
                rcases hv4 with rfl | rfl
                · have HQ := Lib.hid (show byV (rowB (chP c G) y (x + 1)) = byV (rowB (chP c G) y x) ++ [.int .u8 98] from HQ0)
                  clear HQ0
                  go_wp2_with (first | (go_at_call 74; refine (HX.out _ (by (go_simp <;> (intros; omega))) (by first | omega | (simp <;> omega))).mono ?_; rintro e wc ⟨rfl, hbc⟩; have r_hbc := keep_rowA hbc; have f_hbc := keep_frA hbc; have s_hbc := hbc.size; (try simp only [World.size_alloc, World.size_setCell, setRow_size, World.size_drew, size_drewNm] at r_hbc f_hbc s_hbc)) | (at_builtin; refine wpList_append_own _ rfl _ _ 22 rfl wo.heap.size 5 i1 z1 1 1 Tryz.underlying22 HI1.out.1 HI1.out.2.1 HI1.out.2.2.1 HI1.out.2.2.2.1 HI1.out.2.2.2.2 (by decide) _ _ _ rfl ((owns_below HO2.out (by repeat' (first | with_reducible exact Below.refl _ _ | with_reducible assumption | with_reducible refine Below.drew ?_ | with_reducible refine Below.drewN ?_ _ | with_reducible refine Below.alloc ?_ ?_ _ | with_reducible refine Below.setCell ?_ ?_ _ | with_reducible refine Below.setRow ?_ ?_ _ | with_reducible refine below_step (by assumption) ?_ ?_ | (show (_ : Nat) ≤ _; first | omega | (simp <;> omega))))).alloc _) ⟨wc.heap.size, 0, none⟩ 1 1 [.int .u8 98] rfl rfl ?c1 ?c2 ?c3 ?c4 ?c5 ?_))
                  case c1 =>
                    intro j u hj
                    match j, hj with
                    | 0, hj => simp at hj; subst hj; simp [Addr.add]
                  case c2 => intro u hu; simp at hu; subst hu; rfl
                  case c3 => unfold maxLen; omega
                  case c4 => omega
                  case c5 => first | omega | (simp <;> omega)
                  intro v' w2 hown' hgrow _
                  have hbg : Below wo.heap.size wo w2 := below_grown (Below.alloc (by repeat' (first | with_reducible exact Below.refl _ _ | with_reducible assumption | with_reducible refine Below.drew ?_ | with_reducible refine Below.drewN ?_ _ | with_reducible refine Below.alloc ?_ ?_ _ | with_reducible refine Below.setCell ?_ ?_ _ | with_reducible refine Below.setRow ?_ ?_ _ | with_reducible refine below_step (by assumption) ?_ ?_ | (show (_ : Nat) ≤ _; first | omega | (simp <;> omega)))) (by first | omega | (simp <;> omega)) _) hgrow (owns_base HO2.out) (by first | omega | (simp <;> omega))
                  have HB := Lib.hid hbg
                  rw [← HQ.out] at hown'
                  have HW := Lib.hid hown'
                  clear hbg hown' hgrow
                  go_wp2
                  go_roundw
                  case rel => first | exact ⟨x + 1, by omega, by go_num, HB.out, HW.out⟩ | ((repeat (with_reducible apply Exists.intro)); refine And.intro ?_ ?_; rotate_left; (focus ((repeat' (with_reducible apply And.intro)) <;> rfl)); exact ⟨x + 1, by omega, by go_num, HB.out, HW.out⟩)
                  case measure => simp [intOf]; omega
                · have HQ := Lib.hid (show byV (rowB (chP c G) y (x + 1)) = byV (rowB (chP c G) y x) ++ [.int .u8 99] from HQ0)
                  clear HQ0
                  go_wp2_with (first | (go_at_call 74; refine (HX.out _ (by (go_simp <;> (intros; omega))) (by first | omega | (simp <;> omega))).mono ?_; rintro e wc ⟨rfl, hbc⟩; have r_hbc := keep_rowA hbc; have f_hbc := keep_frA hbc; have s_hbc := hbc.size; (try simp only [World.size_alloc, World.size_setCell, setRow_size, World.size_drew, size_drewNm] at r_hbc f_hbc s_hbc)) | (at_builtin; refine wpList_append_own _ rfl _ _ 22 rfl wo.heap.size 5 i1 z1 1 1 Tryz.underlying22 HI1.out.1 HI1.out.2.1 HI1.out.2.2.1 HI1.out.2.2.2.1 HI1.out.2.2.2.2 (by decide) _ _ _ rfl ((owns_below HO2.out (by repeat' (first | with_reducible exact Below.refl _ _ | with_reducible assumption | with_reducible refine Below.drew ?_ | with_reducible refine Below.drewN ?_ _ | with_reducible refine Below.alloc ?_ ?_ _ | with_reducible refine Below.setCell ?_ ?_ _ | with_reducible refine Below.setRow ?_ ?_ _ | with_reducible refine below_step (by assumption) ?_ ?_ | (show (_ : Nat) ≤ _; first | omega | (simp <;> omega))))).alloc _) ⟨wc.heap.size, 0, none⟩ 1 1 [.int .u8 99] rfl rfl ?c1 ?c2 ?c3 ?c4 ?c5 ?_))
                  case c1 =>
                    intro j u hj
                    match j, hj with
                    | 0, hj => simp at hj; subst hj; simp [Addr.add]
                  case c2 => intro u hu; simp at hu; subst hu; rfl
                  case c3 => unfold maxLen; omega
                  case c4 => omega
                  case c5 => first | omega | (simp <;> omega)
                  intro v' w2 hown' hgrow _
                  have hbg : Below wo.heap.size wo w2 := below_grown (Below.alloc (by repeat' (first | with_reducible exact Below.refl _ _ | with_reducible assumption | with_reducible refine Below.drew ?_ | with_reducible refine Below.drewN ?_ _ | with_reducible refine Below.alloc ?_ ?_ _ | with_reducible refine Below.setCell ?_ ?_ _ | with_reducible refine Below.setRow ?_ ?_ _ | with_reducible refine below_step (by assumption) ?_ ?_ | (show (_ : Nat) ≤ _; first | omega | (simp <;> omega)))) (by first | omega | (simp <;> omega)) _) hgrow (owns_base HO2.out) (by first | omega | (simp <;> omega))
                  have HB := Lib.hid hbg
                  rw [← HQ.out] at hown'
                  have HW := Lib.hid hown'
                  clear hbg hown' hgrow
                  go_wp2
                  go_roundw
                  case rel => first | exact ⟨x + 1, by omega, by go_num, HB.out, HW.out⟩ | ((repeat (with_reducible apply Exists.intro)); refine And.intro ?_ ?_; rotate_left; (focus ((repeat' (with_reducible apply And.intro)) <;> rfl)); exact ⟨x + 1, by omega, by go_num, HB.out, HW.out⟩)
                  case measure => simp [intOf]; omega
            · have hxe : x = W := by omega
              subst hxe
              have hlen : (rowB (chP c G) y x).length = x := rowB_len _ _ _
              have HCN := Lib.hid (fun w2 g cap h => HCV.out w2 g cap x (rowB (chP c G) y x) hlen h)
              have HQ := Lib.hid (show strV (linB (chP c G) x (y + 1)) = strV (linB (chP c G) x y) ++ [.string (tx (rowB (chP c G) y x))] by rw [lin_next, strV_snocP])
              obtain ⟨g2, c2, hv2, hg2, hg2w⟩ := owns_posP HO2.out (by omega)
              subst hv2
              have hcv := HCN.out wr g2 c2 (byV_row hlen HO2.out)
              rw [show (⟨(rowB (chP c G) y x).toArray⟩ : ByteArray) = tx (rowB (chP c G) y x) from rfl] at hcv
              clear hlen HCN
              go_wp2_with (at_builtin; refine wpList_append_own _ rfl _ _ 39 rfl (w.heap.size + 1) 9 i0 z0 1 16 Tryz.underlying39 HI.out.1 HI.out.2.1 HI.out.2.2.1 HI.out.2.2.2.1 HI.out.2.2.2.2 (by decide) _ _ _ rfl ((owns_below HO.out (by repeat' (first | with_reducible exact Below.refl _ _ | with_reducible assumption | with_reducible refine Below.drew ?_ | with_reducible refine Below.drewN ?_ _ | with_reducible refine Below.alloc ?_ ?_ _ | with_reducible refine Below.setCell ?_ ?_ _ | with_reducible refine Below.setRow ?_ ?_ _ | with_reducible refine below_step (by assumption) ?_ ?_ | (show (_ : Nat) ≤ _; first | omega | (simp <;> omega))))).alloc _) ⟨wr.heap.size, 0, none⟩ 1 1 [.string (tx (rowB (chP c G) y x))] rfl rfl ?c1 ?c2 ?c3 ?c4 ?c5 ?_)
              case c1 =>
                intro j u hj
                match j, hj with
                | 0, hj => simp at hj; subst hj; simp [Addr.add]
              case c2 => intro u hu; simp at hu; subst hu; rfl
              case c3 => unfold maxLen; omega
              case c4 => omega
              case c5 => first | omega | (simp <;> omega)
              intro v' w2 hown' hgrow _
              have hob := owns_base HO.out
              have hbg : Below w.heap.size w w2 := below_grown (Below.alloc (by repeat' (first | with_reducible exact Below.refl _ _ | with_reducible assumption | with_reducible refine Below.drew ?_ | with_reducible refine Below.drewN ?_ _ | with_reducible refine Below.alloc ?_ ?_ _ | with_reducible refine Below.setCell ?_ ?_ _ | with_reducible refine Below.setRow ?_ ?_ _ | with_reducible refine below_step (by assumption) ?_ ?_ | (show (_ : Nat) ≤ _; first | omega | (simp <;> omega)))) (by first | omega | (simp <;> omega)) _) hgrow (fun k hk => by have := hob k hk; omega) (by first | omega | (simp <;> omega))
              have hbg2 : Below (w.heap.size + 1) wr w2 := below_grown (Below.alloc (Below.refl _ _) (by omega) _) hgrow hob (by first | omega | (simp <;> omega))
              have hrG3 := (keep_row hbg2 (by omega)).trans hrG2
              have hsz3 := hbg2.size
              have HB := Lib.hid hbg
              rw [← HQ.out] at hown'
              have HW := Lib.hid hown'
              clear hbg hown' hgrow hob hbg2
              go_wp2
              go_roundw
              case rel => first | exact ⟨y + 1, by omega, by go_num, HB.out, by first | omega | (simp <;> omega), by (go_simp <;> (intros; omega)), HW.out⟩ | ((repeat (with_reducible apply Exists.intro)); refine And.intro ?_ ?_; rotate_left; (focus ((repeat' (with_reducible apply And.intro)) <;> rfl)); exact ⟨y + 1, by omega, by go_num, HB.out, by first | omega | (simp <;> omega), by (go_simp <;> (intros; omega)), HW.out⟩)
              case measure => simp [intOf]; omega
        · have hye : y = H := by omega
          subst hye
          go_wp2
          go_ret
          exact ⟨_, rfl, by rw [hGG]; exact owns_downP HO.out (by omega), by repeat' (first | with_reducible exact Below.refl _ _ | with_reducible assumption | with_reducible refine Below.drew ?_ | with_reducible refine Below.drewN ?_ _ | with_reducible refine Below.alloc ?_ ?_ _ | with_reducible refine Below.setCell ?_ ?_ _ | with_reducible refine Below.setRow ?_ ?_ _ | with_reducible refine below_step (by assumption) ?_ ?_ | (show (_ : Nat) ≤ _; first | omega | (simp <;> omega)))⟩
end Go.Proofs.YtejnejplofddnaaGreatDoor
