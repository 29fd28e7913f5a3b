/- Several texts in one: Draw Src. -/
import Derived.Test.YtejnejplofddnaaGreatDoorSheetOk
import Derived.Test.YtejnejplofddnaaGreatDoorGqC
import Derived.Test.YtejnejplofddnaaGreatDoorHeld
import Derived.RegionTactic
/- A sheet that is drawn: what holds while its cells are filled. No program. -/
namespace Go.Proofs.YtejnejplofddnaaGreatDoor
open Go.RowKit
set_option linter.unusedVariables false
set_option linter.unusedSimpArgs false
set_option maxRecDepth 100000
/-- A row's number with one more bit. -/
def waxV (a : Int) (x : Nat) : Int := bits BinOp.or IntKind.u8 a (2 ^ x % 256)
def orTable : Bool := (List.range 256).all fun a => (List.range 8).all fun x => decide (0 ≤ waxV a x) && (decide (waxV a x ≤ 255) && ((List.range 8).all fun z => (bits BinOp.and IntKind.u8 (waxV a x / 2 ^ z) 1 == 1) == (z == x || (bits BinOp.and IntKind.u8 ((a : Int) / 2 ^ z) 1 == 1))))
theorem orTable_ok : orTable = true := by kernel_rfl
theorem waxV_in {a : Int} (h0 : 0 ≤ a) (h1 : a ≤ 255) {x : Nat} (hx : x < 8) : (0 ≤ waxV a x ∧ waxV a x ≤ 255) ∧ ∀ z, z < 8 → (bits BinOp.and IntKind.u8 (waxV a x / 2 ^ z) 1 == 1) = (z == x || (bits BinOp.and IntKind.u8 (a / 2 ^ z) 1 == 1)) := by
  have h := orTable_ok
  unfold orTable at h
  have h2 := List.all_eq_true.1 (List.all_eq_true.1 h a.toNat (List.mem_range.2 (by omega))) x (List.mem_range.2 hx)
  rw [Int.toNat_of_nonneg h0] at h2
  simp only [Bool.and_eq_true, decide_eq_true_eq] at h2
  obtain ⟨h3, h4, h5⟩ := h2
  refine ⟨⟨h3, h4⟩, fun z hz => ?_⟩
  exact eq_of_beq (List.all_eq_true.1 h5 z (List.mem_range.2 hz))
/-- A cell without water, dye and wax. -/
def Bare (c : Nat → Int) (x y : Nat) : Prop := c (2 + y * 8 + x) = 0 ∧ c (66 + y * 24 + x * 3) = 0 ∧ c (66 + y * 24 + x * 3 + 1) = 0 ∧ c (66 + y * 24 + x * 3 + 2) = 0 ∧ waxS c x y = false
/-- The cells before the i-th are filled. -/
structure DrI (c : Nat → Int) (W H i : Nat) : Prop where
  fit : FitSheet c
  w0 : c 0 = W
  h0 : c 1 = H
  w1 : 1 ≤ W ∧ W ≤ 5
  h1 : 1 ≤ H ∧ H ≤ 5
  cell : ∀ y, y < 8 → ∀ x, x < 8 → CellS c y x
  bare : ∀ y x, y < H → x < W → i ≤ y * W + x → Bare c x y
theorem DrI.ok {c : Nat → Int} {W H i : Nat} (h : DrI c W H i) : okS c = true := (okS_true ⟨by have := h.w0; have := h.w1; omega, by have := h.h0; have := h.h1; omega, h.cell⟩).symm
theorem isP_up {c : Nat → Int} {j : Nat} (hj : 2 ≤ j) (v a b : Int) : isP (upI c j v) a b = isP c a b := by
  unfold isP upI
  rw [if_neg (by omega), if_neg (by omega)]
theorem wax_up {c : Nat → Int} {j : Nat} (hj : j < 258) (v : Int) (x y : Nat) : waxS (upI c j v) x y = waxS c x y := by
  unfold waxS upI
  rw [if_neg (by omega)]
theorem fit_upD {c : Nat → Int} (h : FitSheet c) {j : Nat} (h1 : 2 ≤ j) (h2 : j < 258) {v : Int} (hv : 0 ≤ v ∧ v ≤ 1000) : FitSheet (upI c j v) where
  side := fun i hi => by unfold upI; rw [if_neg (by omega)]; exact h.side i hi
  cell := fun i a b => by unfold upI; split; omega; exact h.cell i a b
  wax := fun i a b => by unfold upI; rw [if_neg (by omega)]; exact h.wax i a b
theorem spot_inj {W x y a b : Nat} (hx : x < W) (ha : a < W) (h : y * W + x = b * W + a) : x = a ∧ y = b := by
  have h1 : (y * W + x) % W = x := by rw [Nat.add_comm, Nat.add_mul_mod_self_right, Nat.mod_eq_of_lt hx]
  have h2 : (b * W + a) % W = a := by rw [Nat.add_comm, Nat.add_mul_mod_self_right, Nat.mod_eq_of_lt ha]
  have e : x = a := by rw [← h1, ← h2, h]
  subst e
  refine ⟨rfl, ?_⟩
  have h3 : y * W = b * W := by omega
  exact Nat.eq_of_mul_eq_mul_right (by omega) h3
theorem isP_yes {c : Nat → Int} {W H x y : Nat} (hW : c 0 = W) (hH : c 1 = H) (hx : x < W) (hy : y < H) : isP c x y = true := by
  unfold isP
  rw [Bool.and_eq_true, inB_true, inB_true]
  omega
/-- The i-th cell is waxed. -/
theorem DrI.waxed {c : Nat → Int} {W H x y : Nat} (h : DrI c W H (y * W + x)) (hx : x < W) (hy : y < H) : DrI (upI c (258 + y) (waxV (c (258 + y)) x)) W H (y * W + x + 1) := by
  have hw := h.w1
  have hh := h.h1
  have hf := h.fit.wax (258 + y) (by omega) (by omega)
  obtain ⟨hv, hb⟩ := waxV_in hf.1 hf.2 (show x < 8 by omega)
  have hlow : ∀ j, j < 258 → upI c (258 + y) (waxV (c (258 + y)) x) j = c j := fun j hj => by unfold upI; rw [if_neg (by omega)]
  have hwx : ∀ a b, a < 8 → b < 8 → waxS (upI c (258 + y) (waxV (c (258 + y)) x)) a b = ((a == x && b == y) || waxS c a b) := fun a b ha hb8 => by
    unfold waxS upI
    by_cases e : b = y
    · subst e
      rw [if_pos rfl, hb a ha]; simp
    · rw [if_neg (by omega)]
      have : (b == y) = false := by rw [beq_eq_false_iff_ne]; exact e
      rw [this]; simp
  have hip : ∀ a b, isP (upI c (258 + y) (waxV (c (258 + y)) x)) a b = isP c a b := fun a b => isP_up (by omega) _ _ _
  have hbare := h.bare y x hy hx (Nat.le_refl _)
  refine ⟨⟨fun j hj => by rw [hlow j (by omega)]; exact h.fit.side j hj, fun j a b => by rw [hlow j b]; exact h.fit.cell j a b, fun j a b => by unfold upI; split; exact hv; exact h.fit.wax j a b⟩, by rw [hlow 0 (by omega)]; exact h.w0, by rw [hlow 1 (by omega)]; exact h.h0, hw, hh, fun b hb8 a ha8 => ?_, fun b a hbH haW hi => ?_⟩
  · obtain ⟨h1, h2, h3, h4, h5, h6⟩ := h.cell b hb8 a ha8
    by_cases e : a = x ∧ b = y
    · obtain ⟨rfl, rfl⟩ := e
      obtain ⟨g1, g2, g3, g4, g5⟩ := hbare
      unfold CellS CellW
      rw [hip, hlow _ (by omega), hlow _ (by omega), hlow _ (by omega), hlow _ (by omega)]
      exact ⟨.inl (isP_yes h.w0 h.h0 hx hy), h2, h3, h4, h5, .inl (by omega)⟩
    · have e2 : (a == x && b == y) = false := by
        rw [Bool.and_eq_false_iff]
        simp only [beq_eq_false_iff_ne]
        by_cases e3 : a = x
        · exact .inr (fun e4 => e ⟨e3, e4⟩)
        · exact .inl e3
      unfold CellS CellW
      rw [hip, hlow _ (by omega), hlow _ (by omega), hlow _ (by omega), hlow _ (by omega), hwx a b ha8 hb8, e2, Bool.false_or]
      exact ⟨h1, h2, h3, h4, h5, h6⟩
  · obtain ⟨g1, g2, g3, g4, g5⟩ := h.bare b a hbH haW (by omega)
    have e2 : (a == x && b == y) = false := by
      rw [Bool.and_eq_false_iff]
      simp only [beq_eq_false_iff_ne]
      by_cases e3 : a = x
      · exact .inr (fun e4 => by subst e3; subst e4; omega)
      · exact .inl e3
    unfold Bare
    rw [hlow _ (by omega), hlow _ (by omega), hlow _ (by omega), hlow _ (by omega), hwx a b (by omega) (by omega), e2, Bool.false_or]
    exact ⟨g1, g2, g3, g4, g5⟩
/-- The i-th cell is being filled. -/
def DrJ (c : Nat → Int) (W H x y : Nat) : Prop := DrI c W H (y * W + x + 1) ∧ waxS c x y = false
theorem DrI.dry {c : Nat → Int} {W H x y : Nat} (h : DrI c W H (y * W + x)) (hx : x < W) (hy : y < H) : DrJ c W H x y :=
  ⟨⟨h.fit, h.w0, h.h0, h.w1, h.h1, h.cell, fun b a h1 h2 h3 => h.bare b a h1 h2 (by omega)⟩, (h.bare y x hy hx (Nat.le_refl _)).2.2.2.2⟩
/-- A number of the i-th cell. -/
def CellAt (x y j : Nat) : Prop := j = 2 + y * 8 + x ∨ (66 + y * 24 + x * 3 ≤ j ∧ j ≤ 66 + y * 24 + x * 3 + 2)
theorem DrJ.put {c : Nat → Int} {W H x y : Nat} (h : DrJ c W H x y) (hx : x < W) (hy : y < H) {j : Nat} (hj : CellAt x y j) {v : Int} (hv : 0 ≤ v ∧ v ≤ 200) : DrJ (upI c j v) W H x y := by
  obtain ⟨h, hwx⟩ := h
  have hw := h.w1
  have hh := h.h1
  have h2 : 2 ≤ j ∧ j < 258 := by unfold CellAt at hj; omega
  refine ⟨⟨fit_upD h.fit h2.1 h2.2 (by omega), by unfold upI; rw [if_neg (by omega)]; exact h.w0, by unfold upI; rw [if_neg (by omega)]; exact h.h0, hw, hh, fun b hb8 a ha8 => ?_, fun b a hbH haW hi => ?_⟩, by rw [wax_up h2.2]; exact hwx⟩
  · obtain ⟨h1, g2, g3, g4, g5, h6⟩ := h.cell b hb8 a ha8
    unfold CellS CellW
    rw [isP_up h2.1, wax_up h2.2]
    refine ⟨h1, by unfold upI; split <;> omega, by unfold upI; split <;> omega, by unfold upI; split <;> omega, by unfold upI; split <;> omega, ?_⟩
    by_cases e : a = x ∧ b = y
    · obtain ⟨rfl, rfl⟩ := e
      exact .inr ⟨isP_yes h.w0 h.h0 hx hy, hwx⟩
    · have q1 : 2 + b * 8 + a ≠ j := by unfold CellAt at hj; omega
      have q2 : 66 + b * 24 + a * 3 ≠ j := by unfold CellAt at hj; omega
      have q3 : 66 + b * 24 + a * 3 + 1 ≠ j := by unfold CellAt at hj; omega
      have q4 : 66 + b * 24 + a * 3 + 2 ≠ j := by unfold CellAt at hj; omega
      unfold upI
      rw [if_neg q1, if_neg q2, if_neg q3, if_neg q4]
      exact h6
  · have e : ¬ (a = x ∧ b = y) := fun ⟨e1, e2⟩ => by subst e1; subst e2; omega
    obtain ⟨g1, g2, g3, g4, g5⟩ := h.bare b a hbH haW hi
    have q1 : 2 + b * 8 + a ≠ j := by unfold CellAt at hj; omega
    have q2 : 66 + b * 24 + a * 3 ≠ j := by unfold CellAt at hj; omega
    have q3 : 66 + b * 24 + a * 3 + 1 ≠ j := by unfold CellAt at hj; omega
    have q4 : 66 + b * 24 + a * 3 + 2 ≠ j := by unfold CellAt at hj; omega
    unfold Bare
    rw [wax_up h2.2]
    unfold upI
    rw [if_neg q1, if_neg q2, if_neg q3, if_neg q4]
    exact ⟨g1, g2, g3, g4, g5⟩
theorem drI_start {c : Nat → Int} {W H : Nat} (hW : c 0 = W) (hH : c 1 = H) (w1 : 1 ≤ W ∧ W ≤ 5) (h1 : 1 ≤ H ∧ H ≤ 5) (h0 : ∀ j, 2 ≤ j → c j = 0) : DrI c W H 0 := by
  have hx : ∀ a b, waxS c a b = false := fun a b => by
    unfold waxS
    rw [h0 (258 + b) (by omega), Int.zero_ediv]
    decide
  refine ⟨⟨fun j hj => ?_, fun j a b => by rw [h0 j a]; omega, fun j a b => by rw [h0 j (by omega)]; omega⟩, hW, hH, w1, h1, fun b hb a ha => ?_, fun b a _ _ _ => ⟨h0 _ (by omega), h0 _ (by omega), h0 _ (by omega), h0 _ (by omega), hx a b⟩⟩
  · have : j = 0 ∨ j = 1 := by omega
    rcases this with rfl | rfl <;> omega
  · have e1 := h0 (2 + b * 8 + a) (by omega)
    have e2 := h0 (66 + b * 24 + a * 3) (by omega)
    have e3 := h0 (66 + b * 24 + a * 3 + 1) (by omega)
    have e4 := h0 (66 + b * 24 + a * 3 + 2) (by omega)
    exact ⟨.inr (hx a b), by omega, by omega, by omega, by omega, .inl (by omega)⟩
end Go.Proofs.YtejnejplofddnaaGreatDoor
/- The source of choices: next, pick, one. -/
namespace Go.Proofs.YtejnejplofddnaaGreatDoor
open Go.RowKit
set_option linter.unusedVariables false
set_option linter.unusedSimpArgs false
set_option maxRecDepth 100000
/-- The source's row. -/
def srcR (a : Option Addr) (len cap t : Nat) (sd : Int) : Array Value := #[.slice a len cap, .int .i64 (t : Int), .int .u64 sd]
/-- The bytes that it reads, in blocks below B. -/
def CodeIn (B : Nat) (w : World) (a : Option Addr) (len : Nat) : Prop := len ≤ 9223372036854775807 ∧ (len = 0 ∨ ∃ g o, a = some ⟨g, o, none⟩ ∧ g < B ∧ g < w.heap.size ∧ ∃ cf : Nat → Int, ∀ j, j < len → (rowOf w g)[o + j]? = some (.int .u8 (cf j)) ∧ 0 ≤ cf j ∧ cf j ≤ 255)
theorem CodeIn.below {B B' : Nat} {w w' : World} {a : Option Addr} {len : Nat} (h : CodeIn B w a len) (hb : Below B' w w') (hB : B ≤ B') : CodeIn B w' a len := by
  refine ⟨h.1, ?_⟩
  rcases h.2 with h0 | ⟨g, o, rfl, hg, hgs, cf, hcf⟩
  · exact .inl h0
  · exact .inr ⟨g, o, rfl, hg, Nat.lt_of_lt_of_le hgs hb.size, cf, fun j hj => by rw [keep_row hb (by omega)]; exact hcf j hj⟩
/-- Nothing but the source has changed. -/
structure SrcTo (p : Nat) (R : Array Value) (w w' : World) : Prop where
  below : Below p w w'
  row : rowOf w' p = R
  fr : frOf w' p = (0, 0)
  block : ∀ q, q ≠ p → q < w.heap.size → w'.heap[q]? = w.heap[q]?
  size : w.heap.size ≤ w'.heap.size
theorem SrcTo.keep {p : Nat} {R : Array Value} {w w' : World} (h : SrcTo p R w w') (q : Nat) (h1 : q ≠ p) (h2 : q < w.heap.size) : rowOf w' q = rowOf w q ∧ frOf w' q = frOf w q := by
  unfold rowOf frOf
  rw [h.block q h1 h2]
  exact ⟨rfl, rfl⟩
theorem SrcTo.owns {p : Nat} {R : Array Value} {w w' : World} {base n s : Nat} {e : TypeId} {v : Value} {xs : List Value} (h : SrcTo p R w w') (ho : w.ownsRow base e s v n xs) (hp : p < base) : w'.ownsRow base e s v n xs := by
  obtain ⟨hl, h0 | ⟨g, cap, cur, rfl, hb, hg, h1⟩⟩ := ho
  · exact ⟨hl, .inl h0⟩
  · exact ⟨hl, .inr ⟨g, cap, cur, rfl, hb, (h.block g (by omega) (Array.getElem?_eq_some_iff.1 hg).1).trans hg, h1⟩⟩
theorem SrcTo.rowA {p : Nat} {R : Array Value} {w w' : World} (h : SrcTo p R w w') (b : Nat) : rowOf w' b = selEq b p R (selLt b w.heap.size (rowOf w b) (rowOfX w' b)) := by
  unfold selEq selLt
  split
  · rename_i e; rw [e]; exact h.row
  · split
    · rename_i h1 h2; exact (h.keep b h1 h2).1
    · rfl
theorem SrcTo.frA {p : Nat} {R : Array Value} {w w' : World} (h : SrcTo p R w w') (b : Nat) : frOf w' b = selEq b p (0, 0) (selLt b w.heap.size (frOf w b) (frOfX w' b)) := by
  unfold selEq selLt
  split
  · rename_i e; rw [e]; exact h.fr
  · split
    · rename_i h1 h2; exact (h.keep b h1 h2).2
    · rfl
theorem and255 (x : Int) : 0 ≤ bits BinOp.and IntKind.u64 x 255 ∧ bits BinOp.and IntKind.u64 x 255 ≤ 255 := by
  unfold bits
  have h : ((BitVec.ofInt IntKind.u64.bits x &&& BitVec.ofInt IntKind.u64.bits 255).toNat : Nat) ≤ 255 := by
    rw [BitVec.toNat_and]
    exact Nat.le_trans Nat.and_le_right (by decide)
  have e : IntKind.u64.wrap ((BitVec.ofInt IntKind.u64.bits x &&& BitVec.ofInt IntKind.u64.bits 255).toNat : Int) = ((BitVec.ofInt IntKind.u64.bits x &&& BitVec.ofInt IntKind.u64.bits 255).toNat : Int) := by
    generalize (BitVec.ofInt IntKind.u64.bits x &&& BitVec.ofInt IntKind.u64.bits 255).toNat = m at *
    simp only [IntKind.wrap, IntKind.bits, IntKind.signed]; simp; omega
  show 0 ≤ IntKind.u64.wrap _ ∧ IntKind.u64.wrap _ ≤ 255
  rw [e]
  omega
set_option maxHeartbeats 4000000 in
theorem next_any (B p : Nat) (a : Option Addr) (len cap t : Nat) (sd : Int) (ht : t ≤ 1099511627776) (w : World) (hB : B ≤ p) (hc : CodeIn B w a len) (hr : rowOf w p = srcR a len cap t sd) (hf : frOf w p = (0, 0)) (hp : p < w.heap.size) :
    Calls Tryz.prog 121 #[.pointer (some ⟨p, 0, none⟩)] w fun e w' => ∃ x sd' : Int, e = .returned (.int .i64 x) ∧ (0 ≤ x ∧ x ≤ 255) ∧ SrcTo p (srcR a len cap (t + 1) sd') w w' := by
  obtain ⟨hlen, hcc⟩ := hc
  unfold srcR at hr ⊢
  have hw1 : IntKind.i64.wrap ((t : Int) + 1) = ((t + 1 : Nat) : Int) := by rw [IntWalk.i64_in _ (by omega)]; rfl
  by_cases hlt : t < len
  · obtain ⟨g, o, rfl, hg, hgs, cf, hcf⟩ := hcc.resolve_left (by omega)
    obtain ⟨e0, h1, h2⟩ := hcf t hlt
    have hgp : g < p := by omega
    have hlt2 : (t : Int) < (len : Int) := by omega
    have hle2 : ((t + 1 : Nat) : Int) ≤ (len : Int) := by omega
    obtain ⟨R, hR⟩ : ∃ R, rowOf w g = R := ⟨_, rfl⟩
    rw [hR] at e0
    generalize cf t = y at *
    have hwy : IntKind.i64.wrap y = y := IntWalk.i64_in _ (by omega)
    clear hcf hcc
    have hle3 : (t : Int) + 1 ≤ (len : Int) := by omega
    go_enter Tryz.func121, Tryz.ntmps121
    go_wp2
    go_region
    go_wp2
    go_region
    go_wp2
    generalize IntKind.u64.wrap (IntKind.u64.wrap (IntKind.u64.wrap (sd * 6364136223846793005) + y) + 1442695040888963407) = S
    go_region
    go_wp2
    go_ret
    exact ⟨y, S, rfl, ⟨h1, h2⟩, ⟨by repeat' (first | with_reducible exact Below.refl _ _ | with_reducible assumption | with_reducible refine Below.drew ?_ | with_reducible refine Below.drewN ?_ _ | with_reducible refine Below.alloc ?_ ?_ _ | with_reducible refine Below.setCell ?_ ?_ _ | with_reducible refine Below.setRow ?_ ?_ _ | with_reducible refine below_step (by assumption) ?_ ?_ | (show (_ : Nat) ≤ _; first | omega | (simp <;> omega))), by (try simp only [row_drew]); rw [row_setCell, if_pos rfl, row_setCell, if_pos rfl, hr]; simp, by (try simp only [fr_drew]); rw [fr_setCell, fr_setCell]; exact hf, fun q h1 h2 => by
      show (World.setCell _ _ _).heap[q]? = _
      rw [Below.heap_setCell _ _ _ _ h1, Below.heap_setCell _ _ _ _ h1], by simp [World.setCell]⟩⟩
  · have hlt2 : ¬ (t : Int) < (len : Int) := by omega
    have hle2 : ¬ ((t + 1 : Nat) : Int) ≤ (len : Int) := by omega
    have hle3 : ¬ (t : Int) + 1 ≤ (len : Int) := by omega
    clear hcc
    go_enter Tryz.func121, Tryz.ntmps121
    go_wp2
    go_region
    go_wp2
    generalize IntKind.u64.wrap (IntKind.u64.wrap (IntKind.u64.wrap (sd * 6364136223846793005)) + 1442695040888963407) = S
    go_region
    go_wp2
    go_ret
    obtain ⟨h1, h2⟩ := and255 (S / 1099511627776)
    generalize bits BinOp.and IntKind.u64 (S / 1099511627776) 255 = z at *
    exact ⟨z, S, congrArg (fun q => Ending.returned (Value.int .i64 q)) (IntWalk.wrap64_in z (by omega)), ⟨h1, h2⟩, ⟨by repeat' (first | with_reducible exact Below.refl _ _ | with_reducible assumption | with_reducible refine Below.drew ?_ | with_reducible refine Below.drewN ?_ _ | with_reducible refine Below.alloc ?_ ?_ _ | with_reducible refine Below.setCell ?_ ?_ _ | with_reducible refine Below.setRow ?_ ?_ _ | with_reducible refine below_step (by assumption) ?_ ?_ | (show (_ : Nat) ≤ _; first | omega | (simp <;> omega))), by (try simp only [row_drew]); rw [row_setCell, if_pos rfl, row_setCell, if_pos rfl, hr]; simp, by (try simp only [fr_drew]); rw [fr_setCell, fr_setCell]; exact hf, fun q h1 h2 => by
      show (World.setCell _ _ _).heap[q]? = _
      rw [Below.heap_setCell _ _ _ _ h1, Below.heap_setCell _ _ _ _ h1], by simp [World.setCell]⟩⟩
/-- The source at some place, read t times at most. -/
def SrcAt (a : Option Addr) (len cap p K : Nat) (w : World) : Prop := (∃ t sd, t ≤ K ∧ rowOf w p = srcR a len cap t sd) ∧ frOf w p = (0, 0) ∧ p < w.heap.size
/-- Nothing but the source has changed; it has been read K times at most. -/
def SrcBy (a : Option Addr) (len cap p K : Nat) (w w' : World) : Prop := ∃ t sd, t ≤ K ∧ SrcTo p (srcR a len cap t sd) w w'
theorem SrcBy.at {a : Option Addr} {len cap p K : Nat} {w w' : World} (h : SrcBy a len cap p K w w') (hp : p < w.heap.size) : SrcAt a len cap p K w' := by
  obtain ⟨t, sd, ht, h⟩ := h
  exact ⟨⟨t, sd, ht, h.row⟩, h.fr, Nat.lt_of_lt_of_le hp h.size⟩
set_option maxHeartbeats 4000000 in
theorem pick_any (B p : Nat) (a : Option Addr) (len cap t : Nat) (sd n : Int) (ht : t ≤ 1099511627775) (hn : 1 ≤ n ∧ n ≤ 200) (w : World) (hB : B ≤ p) (hc : CodeIn B w a len) (hr : rowOf w p = srcR a len cap t sd) (hf : frOf w p = (0, 0)) (hp : p < w.heap.size) :
    Calls Tryz.prog 83 #[.pointer (some ⟨p, 0, none⟩), .int .i64 n] w fun e w' => ∃ (x sd' : Int) (t' : Nat), e = .returned (.int .i64 x) ∧ (0 ≤ x ∧ x < n) ∧ t' ≤ t + 1 ∧ SrcTo p (srcR a len cap t' sd') w w' := by
  have HN := Lib.hid (fun w1 (hb : w1.heap = w.heap) => next_any B p a len cap t sd (by omega) w1 hB (by
    refine ⟨hc.1, ?_⟩
    rcases hc.2 with h0 | ⟨g, o, h1, h2, h3, cf, h4⟩
    · exact .inl h0
    · exact .inr ⟨g, o, h1, h2, by rw [hb]; exact h3, cf, fun j hj => by unfold rowOf; rw [hb]; exact h4 j hj⟩) (by unfold rowOf; rw [hb]; exact hr) (by unfold frOf; rw [hb]; exact hf) (by rw [hb]; exact hp))
  clear hc
  by_cases h1 : n ≤ 1
  · have hn1 : n = 1 := by omega
    subst hn1
    go_enter Tryz.func83, Tryz.ntmps83
    go_wp2
    go_ret
    exact ⟨0, sd, t, rfl, by omega, by omega, ⟨by repeat' (first | with_reducible exact Below.refl _ _ | with_reducible assumption | with_reducible refine Below.drew ?_ | with_reducible refine Below.drewN ?_ _ | with_reducible refine Below.alloc ?_ ?_ _ | with_reducible refine Below.setCell ?_ ?_ _ | with_reducible refine Below.setRow ?_ ?_ _ | with_reducible refine below_step (by assumption) ?_ ?_ | (show (_ : Nat) ≤ _; first | omega | (simp <;> omega))), hr, hf, fun q _ _ => rfl, Nat.le_refl _⟩⟩
  · have h2 : ¬ 200 < n := by omega
    go_enter Tryz.func83, Tryz.ntmps83
    go_wp2_with (go_at_call 121; refine (HN.out _ (by first | rfl | simp)).mono ?_; rintro e w1 ⟨x, sd', rfl, hx, hs⟩; have HS := Lib.hid hs; clear hs)
    have hx3 : x.tmod n = x % n := Int.tmod_eq_emod_of_nonneg hx.1
    have hx4 : 0 ≤ x % n := Int.emod_nonneg _ (by omega)
    have hx5 : x % n < n := Int.emod_lt_of_pos _ (by omega)
    have hn0 : ¬ n = 0 := by omega
    have hn00 : (n == 0) = false := by rw [beq_eq_false_iff_ne]; exact hn0
    generalize x % n = r at *
    have hw : IntKind.i64.wrap r = r := IntWalk.i64_in _ (by omega)
    go_ret
    exact ⟨r, sd', t + 1, by first | rfl | simp, ⟨hx4, hx5⟩, Nat.le_refl _, HS.out⟩
set_option maxHeartbeats 4000000 in
theorem one_any (B p : Nat) (a : Option Addr) (len cap t : Nat) (sd n : Int) (ht : t ≤ 1099511627775) (hn : 1 ≤ n ∧ n ≤ 200) (w : World) (hB : B ≤ p) (hc : CodeIn B w a len) (hr : rowOf w p = srcR a len cap t sd) (hf : frOf w p = (0, 0)) (hp : p < w.heap.size) :
    Calls Tryz.prog 85 #[.pointer (some ⟨p, 0, none⟩), .int .i64 n] w fun e w' => ∃ (b : Bool) (sd' : Int) (t' : Nat), e = .returned (.bool b) ∧ t' ≤ t + 1 ∧ SrcTo p (srcR a len cap t' sd') w w' := by
  have HP := Lib.hid (pick_any B p a len cap t sd n ht hn w hB hc hr hf hp)
  clear hc
  go_enter Tryz.func85, Tryz.ntmps85
  go_wp2_with (go_at_call 83; refine HP.out.mono ?_; rintro e w1 ⟨x, sd', t', rfl, hx, ht', hs⟩; have HS := Lib.hid hs; clear hs)
  go_ret
  exact ⟨_, sd', t', rfl, ht', HS.out⟩
theorem l00From_any (a : Option Addr) (len cap : Nat) (w : World) : Calls Tryz.prog 38 #[.slice a len cap] w fun e w' => e = .returned (.pointer (some ⟨w.heap.size, 0, none⟩)) ∧ rowOf w' w.heap.size = srcR a len cap 0 0 ∧ frOf w' w.heap.size = (0, 0) ∧ w.heap.size < w'.heap.size ∧ Below w.heap.size w w' := by
  unfold srcR
  go_enter Tryz.func38, Tryz.ntmps38
  go_wp2
  go_ret
  exact ⟨rfl, by (go_simp <;> (intros; omega)), by (go_simp <;> (intros; omega)), by simp, by repeat' (first | with_reducible exact Below.refl _ _ | with_reducible assumption | with_reducible refine Below.drew ?_ | with_reducible refine Below.drewN ?_ _ | with_reducible refine Below.alloc ?_ ?_ _ | with_reducible refine Below.setCell ?_ ?_ _ | with_reducible refine Below.setRow ?_ ?_ _ | with_reducible refine below_step (by assumption) ?_ ?_ | (show (_ : Nat) ≤ _; first | omega | (simp <;> omega)))⟩
end Go.Proofs.YtejnejplofddnaaGreatDoor
