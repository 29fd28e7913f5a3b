/- Several texts in one: Dec RText LinesP DecI Lines RTextS RingI RingT. -/
import Derived.Test.YtkdfkhjoijfcdaaDoorTxt
import Derived.Test.YtkdfkhjoijfcdaaDoorHeld
import Derived.Test.YtkdfkhjoijfcdaaDoorCell
import Derived.Test.YtkdfkhjoijfcdaaDoorFText
import Derived.Test.YtkdfkhjoijfcdaaDoorShelfC
import Derived.Lib.SmallJoins
import Derived.Test.YtkdfkhjoijfcdaaDoorFTextI
import Derived.Test.YtkdfkhjoijfcdaaDoorShelfB
import Derived.Test.YtkdfkhjoijfcdaaDoorSheetOkI
/- The text of a number, however many digits: the reference. -/
namespace Go.Proofs.YtkdfkhjoijfcdaaDoor
open Go.RowKit
set_option linter.unusedVariables false
set_option linter.unusedSimpArgs false
set_option maxRecDepth 100000
theorem dec_more {n : Nat} (h : 10 ≤ n) : Lib.decDigits n = Lib.decDigits (n / 10) ++ [by8 (48 + (n : Int) % 10)] := by
  rw [Lib.decDigits, dif_neg (by omega)]
  unfold by8
  rw [show (48 + (n : Int) % 10).toNat = 48 + n % 10 from by omega]
theorem dec_len : ∀ (n : Nat), (Lib.decDigits n).length ≤ n + 1 := by
  intro n
  induction n using Nat.strongRecOn with
  | _ n ih =>
    rcases Nat.lt_or_ge n 10 with h | h
    · rw [dec_one h]; simp
    · rw [dec_more h, List.length_append]
      have := ih (n / 10) (by omega)
      simp; omega
section
variable {P : Program} {md : Region.Mode} {ops : Array Oper} {Q : Exit → Act → World → Prop} {S : World → Prop}
theorem wpAnyH_two {i j : Nat} {oi oj : Oper} {fuel : Nat} {listed : Array Bool} {a : Act} {w : World} (hr : Region.ready md ops listed = [i, j]) (hi : ops[i]? = some oi) (hj : ops[j]? = some oj)
    (wi : Region.wanted oi (yielded ops a.tmps) = true) (wj : Region.wanted oj (yielded ops a.tmps) = true)
    (h1 : oi.wp P a w (fun a' w' => S w' ∧ wpAnyH P md ops Q S fuel (listed.setIfInBounds i true) a' w') Q)
    (h2 : oj.wp P a w (fun a' w' => S w' ∧ wpAnyH P md ops Q S fuel (listed.setIfInBounds j true) a' w') Q) : wpAnyH P md ops Q S (fuel + 1) listed a w :=
  wpAnyH_all hr (by simp) fun k hk => by
    rcases List.mem_cons.1 hk with rfl | hk
    · simp only [wpOp, hi, wi, if_true]
      exact .inl h1
    · obtain rfl := List.mem_singleton.1 hk
      simp only [wpOp, hj, wj, if_true]
      exact .inl h2
theorem oper_hid {o : Oper} {a : Act} {w : World} {R : Act → World → Prop} (h : ∀ R' : Act → World → Prop, (∀ a w, R a w → R' a w) → o.wp P a w R' Q) : o.wp P a w R Q := h R (fun _ _ h => h)
end
end Go.Proofs.YtkdfkhjoijfcdaaDoor
/- The text of rings: what both sides write, and the reference. -/
namespace Go.Proofs.YtkdfkhjoijfcdaaDoor
open Go.RowKit
set_option linter.unusedVariables false
set_option linter.unusedSimpArgs false
set_option maxRecDepth 100000
abbrev rk : Nat → IntKind := fun _ => .i16
/-- A ring's number may stand at a place. -/
def ringC (c r : Nat → Int) (y x : Nat) : Bool := inB (r (y * 8 + x)) (-1) 500 && (isP c x y || decide (r (y * 8 + x) = -1))
def RingTo (c r : Nat → Int) (y x : Nat) : Prop := (∀ i j, i < y → j < 8 → ringC c r i j = true) ∧ ∀ j, j < x → ringC c r y j = true
open Classical in
noncomputable def ringB (c r : Nat → Int) : Bool := decide (∀ i j, i < 8 → j < 8 → ringC c r i j = true)
open Classical in
theorem ringB_no {c r : Nat → Int} {y x : Nat} (hy : y < 8) (hx : x < 8) (h : ringC c r y x = false) : ringB c r = false := decide_eq_false (fun g => by have := g y x hy hx; rw [h] at this; cases this)
open Classical in
theorem ringB_yes {c r : Nat → Int} (h : ∀ i j, i < 8 → j < 8 → ringC c r i j = true) : ringB c r = true := decide_eq_true h
theorem ring_next {c r : Nat → Int} {y x : Nat} (h : RingTo c r y x) (g : ringC c r y x = true) : RingTo c r y (x + 1) := ⟨h.1, fun j hj => by
  rcases Nat.lt_succ_iff_lt_or_eq.1 hj with h2 | rfl
  · exact h.2 j h2
  · exact g⟩
theorem ring_row {c r : Nat → Int} {y : Nat} (h : RingTo c r y 8) : RingTo c r (y + 1) 0 := ⟨fun i j hi hj => by
  rcases Nat.lt_succ_iff_lt_or_eq.1 hi with h2 | rfl
  · exact h.1 i j h2 hj
  · exact h.2 j hj, fun j hj => by omega⟩
/-- The texts. -/
def cellTx (v : Int) : List UInt8 := if v < 0 then [45] else Lib.decDigits v.toNat
def lineTx (r : Nat → Int) (y : Nat) : Nat → List UInt8
  | 0 => []
  | x + 1 => lineTx r y x ++ ((if x = 0 then [] else [32]) ++ cellTx (r (y * 8 + x)))
def ringTx (r : Nat → Int) (W : Nat) : Nat → List UInt8
  | 0 => []
  | y + 1 => ringTx r W y ++ (lineTx r y W ++ [10])
def RingOk (r : Nat → Int) : Prop := ∀ j, j < 64 → -1 ≤ r j ∧ r j ≤ 500
theorem cellTx_len {v : Int} (h : v ≤ 500) : (cellTx v).length ≤ 501 := by
  unfold cellTx
  split
  · simp
  · have := dec_len v.toNat; omega
theorem lineTx_len {r : Nat → Int} (h : RingOk r) {y : Nat} (hy : y < 8) : ∀ x, x ≤ 8 → (lineTx r y x).length ≤ 502 * x
  | 0, _ => Nat.le_refl _
  | x + 1, hx => by
    have := lineTx_len h hy x (by omega)
    have := cellTx_len (h (y * 8 + x) (by omega)).2
    show (lineTx r y x ++ _).length ≤ _
    rw [List.length_append, List.length_append]
    split <;> simp <;> omega
theorem ringTx_len {r : Nat → Int} (h : RingOk r) {W : Nat} (hW : W ≤ 8) : ∀ y, y ≤ 8 → (ringTx r W y).length ≤ 4017 * y
  | 0, _ => Nat.le_refl _
  | y + 1, hy => by
    have := ringTx_len h hW y (by omega)
    have := lineTx_len h (y := y) (by omega) W hW
    show (ringTx r W y ++ _).length ≤ _
    rw [List.length_append, List.length_append]
    simp; omega
end Go.Proofs.YtkdfkhjoijfcdaaDoor
/- Lines of words: plain. -/
namespace Go.Proofs.YtkdfkhjoijfcdaaDoor
set_option linter.unusedVariables false
set_option linter.unusedSimpArgs false
set_option maxRecDepth 100000
def rowW (cell : Nat → Nat → List UInt8) (y : Nat) : Nat → List (List UInt8)
  | 0 => []
  | x + 1 => rowW cell y x ++ [cell x y]
def linesTx (cell : Nat → Nat → List UInt8) (sep : List UInt8) (W : Nat) : Nat → List UInt8
  | 0 => []
  | y + 1 => linesTx cell sep W y ++ (Lib.join (rowW cell y W) sep ++ [10])
theorem rowW_len (cell : Nat → Nat → List UInt8) (y : Nat) : ∀ x, (rowW cell y x).length = x
  | 0 => rfl
  | x + 1 => by show (rowW cell y x ++ _).length = _; rw [List.length_append, rowW_len cell y x]; rfl
theorem rowW_next (cell : Nat → Nat → List UInt8) (y x : Nat) : rowW cell y (x + 1) = rowW cell y x ++ [cell x y] := rfl
theorem row_line (r : Nat → Int) (y : Nat) : ∀ x, Lib.join (rowW (fun x y => cellTx (r (y * 8 + x))) y x) [32] = lineTx r y x
  | 0 => rfl
  | x + 1 => by
    show Lib.join (rowW _ y x ++ [cellTx (r (y * 8 + x))]) [32] = lineTx r y x ++ _
    rcases Nat.eq_zero_or_pos x with rfl | hx
    · rw [if_pos rfl]; show Lib.join [_] [32] = [] ++ _; rw [Lib.join_one]; rfl
    · rw [join_snoc _ _ _ (fun h => by have := congrArg List.length h; rw [rowW_len] at this; simp at this; omega), row_line r y x, if_neg (by omega)]
theorem lines_ring (r : Nat → Int) (W : Nat) : ∀ y, linesTx (fun x y => cellTx (r (y * 8 + x))) [32] W y = ringTx r W y
  | 0 => rfl
  | y + 1 => by
    show linesTx _ [32] W y ++ (Lib.join (rowW _ y W) [32] ++ [10]) = ringTx r W y ++ (lineTx r y W ++ [10])
    rw [lines_ring r W y, row_line]
/-- How long: cells of at most m bytes, a separator of at most one. -/
theorem join_len {sep : List UInt8} (hs : sep.length ≤ 1) {m : Nat} : ∀ {l : List (List UInt8)}, (∀ x ∈ l, x.length ≤ m) → (Lib.join l sep).length ≤ (m + 1) * l.length
  | [], _ => Nat.zero_le _
  | x :: r, h => by
    have hr : ∀ {r : List (List UInt8)}, (∀ x ∈ r, x.length ≤ m) → (Lib.joinTail sep r).length ≤ (m + 1) * r.length := by
      intro r
      induction r with
      | nil => intro _; simp [Lib.joinTail]
      | cons y r ih =>
        intro h
        have h1 := ih (fun z hz => h z (List.mem_cons_of_mem _ hz))
        have h2 := h y (by simp)
        have e : Lib.joinTail sep (y :: r) = (sep ++ y) ++ Lib.joinTail sep r := by simp [Lib.joinTail]
        rw [e, List.length_append, List.length_append, List.length_cons, Nat.mul_succ]; omega
    rw [Lib.join_cons, List.length_append, List.length_cons, Nat.mul_succ]
    have := hr (fun z hz => h z (List.mem_cons_of_mem _ hz))
    have := h x (by simp)
    omega
theorem rowW_mem {cell : Nat → Nat → List UInt8} {y : Nat} : ∀ {x : Nat} {z : List UInt8}, z ∈ rowW cell y x → ∃ j, j < x ∧ z = cell j y
  | 0, z, h => by cases h
  | x + 1, z, h => by
    rcases List.mem_append.1 h with h | h
    · obtain ⟨j, hj, e⟩ := rowW_mem h; exact ⟨j, by omega, e⟩
    · exact ⟨x, by omega, List.mem_singleton.1 h⟩
theorem row_len {cell : Nat → Nat → List UInt8} {m : Nat} {sep : List UInt8} (hs : sep.length ≤ 1) {y W : Nat} (h : ∀ x, x < W → (cell x y).length ≤ m) : (Lib.join (rowW cell y W) sep).length ≤ (m + 1) * W := by
  have := join_len hs (m := m) (l := rowW cell y W) (fun z hz => by obtain ⟨j, hj, rfl⟩ := rowW_mem hz; exact h j hj)
  rwa [rowW_len] at this
theorem linesTx_len {cell : Nat → Nat → List UInt8} {m : Nat} {sep : List UInt8} (hs : sep.length ≤ 1) {W : Nat} : ∀ {y : Nat}, (∀ x j, x < W → j < y → (cell x j).length ≤ m) → (linesTx cell sep W y).length ≤ ((m + 1) * W + 1) * y
  | 0, _ => Nat.zero_le _
  | y + 1, h => by
    have h1 := linesTx_len hs (y := y) (fun x j hx hj => h x j hx (by omega))
    have h2 := row_len hs (m := m) (y := y) (W := W) (cell := cell) (fun x hx => h x y hx (by omega))
    show (linesTx cell sep W y ++ _).length ≤ _
    rw [List.length_append, List.length_append, Nat.mul_succ]
    simp; omega
theorem join_tx (l : List (List UInt8)) (sep : List UInt8) : Lib.join ((l.map tx).map (·.data.toList)) (tx sep).data.toList = Lib.join l sep := by
  have e : (l.map tx).map (·.data.toList) = l := by
    rw [List.map_map]
    exact (List.map_congr_left (fun l _ => by show (tx l).data.toList = l; unfold tx; rfl)).trans (List.map_id _)
  rw [e]; rfl
end Go.Proofs.YtkdfkhjoijfcdaaDoor
/- The text of a number, however many digits: the program, out of the laid table. -/
namespace Go.Proofs.YtkdfkhjoijfcdaaDoor
open Go.RowKit Go.Sort
set_option linter.unusedVariables false
set_option linter.unusedSimpArgs false
set_option maxRecDepth 100000
theorem below_grew2 (w : World) (q : Nat) (os : Array Obj) : Below w.heap.size w (grow (w.drewN q) os) :=
  ⟨rfl, rfl, rfl, by simp, fun b hb => by
    show (w.heap ++ os)[b]? = w.heap[b]?
    rw [Array.getElem?_append, if_pos hb]⟩
abbrev TabW (w : World) : Prop := Lib.TabIs Tryd.prog w "internal/strconv.uint64pow10" .u64 Lib.pow10Tab
theorem decimal_tab (i : Nat) (hi : i ≤ 1000000) (w : World) (ht : TabW w) : Calls Tryd.prog 41 #[.int .i64 i] w fun e w' => e = .returned (.string (tx (Lib.decDigits i))) ∧ Below w.heap.size w w' := by
  have HF := Lib.hid (fun w ht => Tryd.strconv_FormatInt_10 (i : Int) (by omega) (by omega) w ht)
  have HT := Lib.hid ht
  have HE := Lib.hid (Lib.itoa_nonneg i)
  clear ht
  go_enter Tryd.func41, Tryd.ntmps41
  go_wp2_with (go_at_call 51; refine (HF.out _ HT.out).mono ?_; rintro e w1 ⟨rfl, q, os, rfl⟩)
  go_ret
  exact ⟨by rw [← HE.out]; rfl, below_grew2 _ _ _⟩
end Go.Proofs.YtkdfkhjoijfcdaaDoor
/- Lines of words: the program, at the closure that gives a ring's text. -/
namespace Go.Proofs.YtkdfkhjoijfcdaaDoor
open Go.RowKit Go.Sort
set_option linter.unusedVariables false
set_option linter.unusedSimpArgs false
set_option maxRecDepth 100000
theorem strV_snocL (D : List (List UInt8)) (x : List UInt8) : strV (D ++ [x]) = strV D ++ [.string (tx x)] := by unfold strV; rw [List.map_append]; rfl
theorem varL_below {P : Program} {n : String} {cs : Array Value} {w w' : World} (h : w.var? P n = some cs) (hb : Below w.heap.size w w') : w'.var? P n = some cs := by
  unfold World.var? at h ⊢
  cases hg : P.globalNamed n with
  | none => rw [hg] at h; cases h
  | some g =>
    rw [hg] at h
    simp only [Option.bind_some] at h ⊢
    have hlt : g < w.heap.size := by
      rcases Nat.lt_or_ge g w.heap.size with h' | h'
      · exact h'
      · rw [Array.getElem?_eq_none h'] at h; cases h
    rw [hb.block g hlt]
    exact h
theorem tabW_below {w w' : World} (h : TabW w) (hb : Below w.heap.size w w') : TabW w' := by
  show w'.var? _ _ = _
  exact varL_below h hb
set_option maxHeartbeats 4000000 in
theorem ringCell_any (q : Nat) (r : Nat → Int) (hfr : RingOk r) (x y : Nat) (hx : x < 8) (hy : y < 8) (w : World) (hq : rowOf w q = kc rk 64 r) (hqs : q < w.heap.size) (ht : TabW w) :
    Calls Tryd.prog 40 #[.agg #[.int .i8 x, .int .i8 y], .pointer (some ⟨q, 0, none⟩)] w fun e w' => e = .returned (.string (tx (cellTx (r (y * 8 + x))))) ∧ Below w.heap.size w w' := by
  have hv := hfr (y * 8 + x) (by omega)
  have HT := Lib.hid ht
  clear ht hfr
  obtain ⟨v, hrv⟩ : ∃ v, r (y * 8 + x) = v := ⟨_, rfl⟩
  rw [hrv] at hv ⊢
  by_cases hneg : v < 0
  · rw [show cellTx v = [45] from if_pos hneg]
    have hnd : decide ((0 : Int) ≤ v) = false := decide_eq_false (by omega)
    have hnd2 : ¬ (0 : Int) ≤ v := by omega
    go_enter Tryd.func40, Tryd.ntmps40
    go_wp2
    go_quiet (fail)
    go_wp2
    go_ret
    exact ⟨rfl, by repeat' (first | with_reducible exact Below.refl _ _ | with_reducible assumption | with_reducible refine Below.drew ?_ | with_reducible refine Below.drewN ?_ _ | with_reducible refine Below.alloc ?_ ?_ _ | with_reducible refine Below.setCell ?_ ?_ _ | with_reducible refine Below.setRow ?_ ?_ _ | with_reducible refine below_step (by assumption) ?_ ?_ | (show (_ : Nat) ≤ _; first | omega | (simp <;> omega)))⟩
  · obtain ⟨u, rfl⟩ : ∃ u : Nat, v = u := ⟨v.toNat, by omega⟩
    have hu : u ≤ 1000000 := by omega
    have hnd : decide ((0 : Int) ≤ (u : Int)) = true := decide_eq_true (by omega)
    have hnd2 : (0 : Int) ≤ (u : Int) := by omega
    obtain ⟨ds, hds⟩ : ∃ ds, Lib.decDigits u = ds := ⟨_, rfl⟩
    rw [show cellTx (u : Int) = ds from (if_neg hneg).trans (by rw [Int.toNat_natCast]; exact hds)]
    have HD := Lib.hid (fun w ht => hds ▸ decimal_tab u hu w ht)
    have hwv : IntKind.i64.wrap (u : Int) = (u : Int) := IntWalk.i64_in _ (by omega)
    clear hds
    go_enter Tryd.func40, Tryd.ntmps40
    go_wp2
    go_quiet (fail)
    go_wp2_with (go_at_call 41; refine (HD.out _ (tabW_below HT.out (by repeat' (first | with_reducible exact Below.refl _ _ | with_reducible assumption | with_reducible refine Below.drew ?_ | with_reducible refine Below.drewN ?_ _ | with_reducible refine Below.alloc ?_ ?_ _ | with_reducible refine Below.setCell ?_ ?_ _ | with_reducible refine Below.setRow ?_ ?_ _ | with_reducible refine below_step (by assumption) ?_ ?_ | (show (_ : Nat) ≤ _; first | omega | (simp <;> omega)))))).mono ?_; rintro e wd ⟨rfl, hbd⟩; have r_hbd := keep_rowA hbd; have f_hbd := keep_frA hbd; have s_hbd := hbd.size; (try simp only [World.size_alloc, World.size_setCell, setRow_size, World.size_drew, size_drewNm] at r_hbd f_hbd s_hbd))
    go_ret
    exact ⟨rfl, by repeat' (first | with_reducible exact Below.refl _ _ | with_reducible assumption | with_reducible refine Below.drew ?_ | with_reducible refine Below.drewN ?_ _ | with_reducible refine Below.alloc ?_ ?_ _ | with_reducible refine Below.setCell ?_ ?_ _ | with_reducible refine Below.setRow ?_ ?_ _ | with_reducible refine below_step (by assumption) ?_ ?_ | (show (_ : Nat) ≤ _; first | omega | (simp <;> omega)))⟩
theorem size_bld : (Tryd.prog.info? 86).map (·.size) = some 2 := by kernel_rfl
@[go_sem ↓] theorem toStore_bld (a : Addr) (v : Value) : storeVar 86 a v = storeR 86 a v := rfl
@[go_sem] theorem store_bld (w : World) (b o : Nat) (vs : Array Value) : (storeR 86 ⟨b, o, none⟩ (.agg vs)).run Tryd.prog w = storedRow Tryd.prog 86 2 w b o vs := run_store_rowA (P := Tryd.prog) 86 2 (by omega) size_bld w b o vs
@[go_sem ↓] theorem zero_bld (w : World) : (zeroValue 86).run Tryd.prog w = .ok (.agg #[.pointer none, .slice none 0 0]) w := by kernel_rfl
abbrev BldW (b : Nat) (l : List UInt8) (w : World) : Prop := Lib.IsBuilder 86 5 b b (Lib.byteCells l) w
theorem bld_below {b : Nat} {l : List UInt8} {w w' : World} (h : BldW b l w) (hb : Below w.heap.size w w') : BldW b l w' := by
  have key : ∀ p, Lib.BuilderAt 86 5 b b p (Lib.byteCells l) w → Lib.BuilderAt 86 5 b b p (Lib.byteCells l) w' := fun p h => by
    obtain ⟨h1, v, h2, h3, h4⟩ := h
    exact ⟨h1, v, (hb.block b (Array.getElem?_eq_some_iff.1 h2).1).trans h2, owns_below h3 hb, h4⟩
  exact h.elim (fun h => .inl (key _ h)) (fun h => .inr (key _ h))
theorem bld_fresh (w : World) : BldW w.heap.size [] ((w.alloc (.cells #[.pointer none, .slice none 0 0] 86)).setRow w.heap.size #[.pointer none, .slice none 0 0]) := by
  have hh := setRow_heap (w.alloc (.cells #[.pointer none, .slice none 0 0] 86)) w.heap.size _ #[Value.pointer none, .slice none 0 0] _ _ (heap_alloc_new w (.cells #[.pointer none, .slice none 0 0] 86))
  exact .inl ⟨Nat.le_refl _, .slice none 0 0, hh, World.ownsRow_nil _ _ _ _, by simp [Value.ownBlock]⟩
theorem cells_app (l m : List UInt8) : Lib.byteCells l ++ Lib.strCells (tx m) = Lib.byteCells (l ++ m) := by
  first | (unfold Lib.byteCells Lib.strCells; simp [tx]; done) | (simp [Lib.byteCells, Lib.strCells, tx]; done) | rfl
theorem write_any (b : Nat) (l m : List UInt8) (w : World) (h : BldW b l w) (hl : l.length + m.length ≤ 1048576) (hb : b ≤ w.heap.size) :
    Calls Tryd.prog 48 #[.pointer (some ⟨b, 0, none⟩), .string (tx m)] w fun e w' => ∃ x, e = .returned x ∧ BldW b (l ++ m) w' ∧ Below b w w' := by
  refine (Any.Builder_WriteString { Tryd.lays156 with } Tryd.Builder_Extra_156 b b (Lib.byteCells l) (tx m) w h (by rw [tx_size]; simp [Lib.byteCells]; omega) hb).mono fun e w' hq => ?_
  obtain ⟨he, hB, hbel⟩ := hq
  refine ⟨_, he, .inr ?_, hbel⟩
  rw [← cells_app]; exact hB
theorem string_any (b : Nat) (l : List UInt8) (w : World) (h : BldW b l w) (hb : b ≤ w.heap.size) :
    Calls Tryd.prog 50 #[.pointer (some ⟨b, 0, none⟩)] w fun e w' => e = .returned (.string (tx l)) ∧ Below b w w' := Tryd.Builder_String_any b b l w h hb
theorem join_any (g cap n : Nat) (base : Nat) (l : List (List UInt8)) (sep : List UInt8) (w : World) (hn : l.length = n) (h : w.ownsRow base 9 1 (.slice (some ⟨g, 0, none⟩) n cap) n (strV l)) (hlen : (Lib.join l sep).length ≤ 1048576) (hnn : n ≤ 1048576) :
    Calls Tryd.prog 49 #[.slice (some ⟨g, 0, none⟩) n cap, .string (tx sep)] w fun e w' => e = .returned (.string (tx (Lib.join l sep))) ∧ Below w.heap.size w w' := by
  obtain ⟨hg, hcap, hcells⟩ := owns_cells h
  subst hn
  have hm : (l.map tx).length = l.length := List.length_map _
  have hj := join_tx l sep
  have h0 := Tryd.strings_Join g 0 cap (l.map tx) (tx sep) w hcells hg (by rw [hm]; omega) (by rw [hm]; exact hcap) (by rw [hj]; omega)
  rw [hm, hj] at h0
  exact h0
theorem owns_pos2 {w : World} {base n s : Nat} {e : TypeId} {v : Value} {xs : List Value} (h : w.ownsRow base e s v n xs) (h0 : 0 < n) : ∃ g cap, v = .slice (some ⟨g, 0, none⟩) n cap ∧ base ≤ g ∧ g < w.heap.size ∧ n ≤ cap ∧ True := by
  obtain ⟨hl, ⟨rfl, rfl⟩ | ⟨g, cap, cur, rfl, hb, hg, h1, h2, h3, ht⟩⟩ := h
  · omega
  · exact ⟨g, cap, rfl, hb, (Array.getElem?_eq_some_iff.1 hg).1, h1, trivial⟩
set_option maxHeartbeats 8000000 in
theorem lines_any (p q : Nat) (c r : Nat → Int) (W H : Nat) (hW : c 0 = W) (hH : c 1 = H) (W8 : W ≤ 8) (H8 : H ≤ 8) (W0 : 0 < W) (hfr : RingOk r) (w : World) (hr : rowOf w p = kc sk 266 c) (hp : p < w.heap.size) (hq : rowOf w q = kc rk 64 r) (hqs : q < w.heap.size) (ht : TabW w) :
    Calls Tryd.prog 39 #[.pointer (some ⟨p, 0, none⟩), .string (tx [32]), .func (.func 40) #[] #[.pointer (some ⟨q, 0, none⟩)]] w fun e w' => e = .returned (.string (tx (ringTx r W H))) ∧ Below w.heap.size w w' := by
  obtain ⟨i0, z0, hi0, hz0, hs0, hb0, hc0⟩ := str_info
  have HI := Lib.hid (And.intro hi0 (And.intro hz0 (And.intro hs0 (And.intro hb0 hc0))))
  clear hi0 hz0 hs0 hb0 hc0
  have HCL := Lib.hid (fun x y hx hy w h1 h2 h3 => ringCell_any q r hfr x y hx hy w h1 h2 h3)
  have HT := Lib.hid ht
  have HF := Lib.hid hfr
  clear ht hfr
  go_enter Tryd.func39, Tryd.ntmps39
  go_wp2
  go_loopw [16] (fun i wr => ∃ y : Nat, y ≤ H ∧ i = .int .i8 y ∧ BldW w.heap.size (ringTx r W y) wr ∧ Below w.heap.size w wr ∧ w.heap.size < wr.heap.size) (fun i wr => 9 - (intOf i).toNat)
  case atStart => exact ⟨0, by omega, rfl, bld_fresh w, by repeat' (first | with_reducible exact Below.refl _ _ | with_reducible assumption | with_reducible refine Below.drew ?_ | with_reducible refine Below.drewN ?_ _ | with_reducible refine Below.alloc ?_ ?_ _ | with_reducible refine Below.setCell ?_ ?_ _ | with_reducible refine Below.setRow ?_ ?_ _ | with_reducible refine below_step (by assumption) ?_ ?_ | (show (_ : Nat) ≤ _; first | omega | (simp <;> omega))), by simp⟩
  case round =>
    obtain ⟨y, hy, rfl, hbl, hb, hsz⟩ := hrel
    have HBL := Lib.hid hbl
    clear hbl
    have hrp := (keep_row hb hp).trans hr
    have hrq := (keep_row hb hqs).trans hq
    have hpw : p < wr.heap.size := by omega
    have hqw : q < wr.heap.size := by omega
    have hsz0 := hb.size
    have hlen := ringTx_len HF.out W8 y (by omega)
    by_cases hy8 : y < H
    · have hyd : (y : Int) < (H : Int) := by omega
      have hyd2 : (y : Int) < c 1 := by omega
      have hwy : IntKind.i8.wrap ((y : Int) + 1) = (y : Int) + 1 := by simp only [IntKind.wrap, IntKind.bits, IntKind.signed]; simp; omega
      obtain ⟨wo, rfl⟩ : ∃ wo, wo = wr := ⟨_, rfl⟩
      have HB0 := Lib.hid hb
      go_wp2
      go_loopw [24, 9] (fun i v wx => ∃ x : Nat, x ≤ W ∧ i = .int .i8 x ∧ wx.ownsRow wo.heap.size 9 1 v x (strV (rowW (fun x y => cellTx (r (y * 8 + x))) y x)) ∧ Below wo.heap.size wo wx) (fun i v wx => 9 - (intOf i).toNat)
      case atStart => exact ⟨0, by omega, rfl, owns_empty1 wo _, by repeat' (first | with_reducible exact Below.refl _ _ | with_reducible assumption | with_reducible refine Below.drew ?_ | with_reducible refine Below.drewN ?_ _ | with_reducible refine Below.alloc ?_ ?_ _ | with_reducible refine Below.setCell ?_ ?_ _ | with_reducible refine Below.setRow ?_ ?_ _ | with_reducible refine below_step (by assumption) ?_ ?_ | (show (_ : Nat) ≤ _; first | omega | (simp <;> omega)))⟩
      case round =>
        obtain ⟨x, hx, rfl, hown, hb2⟩ := hrel
        have HO := Lib.hid hown
        clear hown
        have hszx := hb2.size
        have hrp2 := (keep_row hb2 hpw).trans hrp
        have hrq2 := (keep_row hb2 hqw).trans hrq
        have hbx := below_step hb2 hsz0 hb
        clear hrp hrq
        by_cases hx8 : x < W
        · have hxd : (x : Int) < (W : Int) := by omega
          have hxd2 : (x : Int) < c 0 := by omega
          have hwx : IntKind.i8.wrap ((x : Int) + 1) = (x : Int) + 1 := by simp only [IntKind.wrap, IntKind.bits, IntKind.signed]; simp; omega
          have HQ := Lib.hid (show strV (rowW (fun x y => cellTx (r (y * 8 + x))) y (x + 1)) = strV (rowW (fun x y => cellTx (r (y * 8 + x))) y x) ++ [.string (tx (cellTx (r (y * 8 + x))))] from strV_snocL _ _)
          have HC := Lib.hid (fun w h1 h2 h3 => HCL.out x y (by omega) (by omega) w h1 h2 h3)
          generalize cellTx (r (y * 8 + x)) = ct at *
          go_wp2_with (first | (go_at_call 40; refine (HC.out _ (by (go_simp <;> (intros; omega))) (by first | omega | (simp <;> omega)) (tabW_below HT.out (by repeat' (first | with_reducible exact Below.refl _ _ | with_reducible assumption | with_reducible refine Below.drew ?_ | with_reducible refine Below.drewN ?_ _ | with_reducible refine Below.alloc ?_ ?_ _ | with_reducible refine Below.setCell ?_ ?_ _ | with_reducible refine Below.setRow ?_ ?_ _ | with_reducible refine below_step (by assumption) ?_ ?_ | (show (_ : Nat) ≤ _; first | omega | (simp <;> omega)))))).mono ?_; rintro e wc ⟨rfl, hbc⟩; have r_hbc := keep_rowA hbc; have f_hbc := keep_frA hbc; have s_hbc := hbc.size; (try simp only [World.size_alloc, World.size_setCell, setRow_size, World.size_drew, size_drewNm] at r_hbc f_hbc s_hbc)) | (at_builtin; refine wpList_append_own _ rfl _ _ 41 rfl _ 9 i0 z0 1 16 Tryd.underlying41 HI.out.1 HI.out.2.1 HI.out.2.2.1 HI.out.2.2.2.1 HI.out.2.2.2.2 (by decide) _ _ _ rfl ((owns_below HO.out (by repeat' (first | with_reducible exact Below.refl _ _ | with_reducible assumption | with_reducible refine Below.drew ?_ | with_reducible refine Below.drewN ?_ _ | with_reducible refine Below.alloc ?_ ?_ _ | with_reducible refine Below.setCell ?_ ?_ _ | with_reducible refine Below.setRow ?_ ?_ _ | with_reducible refine below_step (by assumption) ?_ ?_ | (show (_ : Nat) ≤ _; first | omega | (simp <;> omega))))).alloc _) ⟨wc.heap.size, 0, none⟩ 1 1 [.string (tx ct)] rfl rfl ?c1 ?c2 ?c3 ?c4 ?c5 ?_))
          case c1 =>
            intro j u hj
            match j, hj with
            | 0, hj => simp at hj; subst hj; simp [Addr.add]
          case c2 => intro u hu; simp at hu; subst hu; rfl
          case c3 => unfold maxLen; omega
          case c4 => omega
          case c5 => first | omega | (simp <;> omega)
          intro v' w2 hown' hgrow _
          have hbg : Below wo.heap.size wo w2 := below_grown (Below.alloc (below_step hbc (by omega) hb2) (by first | omega | (simp <;> omega)) _) hgrow (owns_base HO.out) (by first | omega | (simp <;> omega))
          rw [← HQ.out] at hown'
          have HB := Lib.hid hbg
          have HW := Lib.hid hown'
          clear hbg hown' hgrow
          go_wp2
          go_roundw
          case rel => first | exact ⟨x + 1, by omega, by go_num, HW.out, HB.out⟩ | ((repeat (with_reducible apply Exists.intro)); refine And.intro ?_ ?_; rotate_left; (focus ((repeat' (with_reducible apply And.intro)) <;> rfl)); exact ⟨x + 1, by omega, by go_num, HW.out, HB.out⟩)
          case measure => simp [intOf]; omega
        · have hxe : x = W := by omega
          subst hxe
          have hxd : decide ((x : Int) < (x : Int)) = false := decide_eq_false (by omega)
          obtain ⟨g, cap, rfl, hg1, hg2, hcap, -⟩ := owns_pos2 HO.out W0
          have hll := lineTx_len HF.out (y := y) (by omega) x (by omega)
          have HJ := Lib.hid (fun w h => row_line r y x ▸ join_any g cap x wo.heap.size (rowW (fun x y => cellTx (r (y * 8 + x))) y x) [32] w (rowW_len _ _ _) h (by rw [row_line]; omega) (by omega))
          have HR := Lib.hid (show ringTx r x (y + 1) = ringTx r x y ++ (lineTx r y x ++ [10]) from rfl)
          have HWR := Lib.hid (fun w2 h hb => write_any w.heap.size (ringTx r x y) (lineTx r y x ++ [10]) w2 h (by rw [List.length_append, List.length_singleton]; omega) hb)
          have hk1 : ¬ 9223372036854775807 < (lineTx r y x).length + 1 := by omega
          have hbw0 : Below w.heap.size w wr := below_step hb2 hsz0 HB0.out
          generalize hlt : lineTx r y x = lt at *
          go_wp2_with (first | (go_at_call 49; refine (HJ.out _ (owns_below HO.out (by repeat' (first | with_reducible exact Below.refl _ _ | with_reducible assumption | with_reducible refine Below.drew ?_ | with_reducible refine Below.drewN ?_ _ | with_reducible refine Below.alloc ?_ ?_ _ | with_reducible refine Below.setCell ?_ ?_ _ | with_reducible refine Below.setRow ?_ ?_ _ | with_reducible refine below_step (by assumption) ?_ ?_ | (show (_ : Nat) ≤ _; first | omega | (simp <;> omega)))))).mono ?_; rintro e wj ⟨rfl, hbj⟩; have r_hbj := keep_rowA hbj; have f_hbj := keep_frA hbj; have s_hbj := hbj.size; (try simp only [World.size_alloc, World.size_setCell, setRow_size, World.size_drew, size_drewNm] at r_hbj f_hbj s_hbj)) | (go_at_call 48; refine (HWR.out _ (bld_below HBL.out (below_step hbj (by omega) hb2)) (by first | omega | (simp <;> omega))).mono ?_; rintro e ww ⟨xv, rfl, hbw, hbb⟩; have HBW := Lib.hid hbw; have HBB := Lib.hid (below_step hbb (Nat.le_refl _) (below_step hbj (by omega) hbw0)); have hsw := hbb.size; clear hbw))
          go_roundw
          case rel => first | exact ⟨y + 1, by omega, by go_num, by rw [HR.out]; exact HBW.out, HBB.out, by omega⟩ | ((repeat (with_reducible apply Exists.intro)); refine And.intro ?_ ?_; rotate_left; (focus ((repeat' (with_reducible apply And.intro)) <;> rfl)); exact ⟨y + 1, by omega, by go_num, by rw [HR.out]; exact HBW.out, HBB.out, by omega⟩)
          case measure => simp [intOf]; omega
    · have hye : y = H := by omega
      subst hye
      have hyd : decide ((y : Int) < (y : Int)) = false := decide_eq_false (by omega)
      go_wp2_with (go_at_call 50; refine (string_any w.heap.size _ _ HBL.out (by omega)).mono ?_; rintro e ws ⟨rfl, hbs⟩)
      go_ret
      exact ⟨rfl, below_step hbs (Nat.le_refl _) hb⟩
end Go.Proofs.YtkdfkhjoijfcdaaDoor
/- The text of rings: the reference. -/
namespace Go.Proofs.YtkdfkhjoijfcdaaDoor
open Go.RowKit
set_option linter.unusedVariables false
set_option linter.unusedSimpArgs false
set_option maxRecDepth 100000
theorem line_neg {r : Nat → Int} {y x : Nat} {v : Int} (hv : r (y * 8 + x) = v) (hx : x ≠ 0) (h : v < 0) : lineTx r y (x + 1) = lineTx r y x ++ [32, 45] := by
  show lineTx r y x ++ ((if x = 0 then [] else [32]) ++ cellTx (r (y * 8 + x))) = _
  rw [hv, if_neg hx]; unfold cellTx; rw [if_pos h]; rfl
theorem line_neg0 {r : Nat → Int} {y : Nat} {v : Int} (hv : r (y * 8) = v) (h : v < 0) : lineTx r y 1 = lineTx r y 0 ++ [45] := by
  show lineTx r y 0 ++ ((if 0 = 0 then [] else [32]) ++ cellTx (r (y * 8 + 0))) = _
  rw [Nat.add_zero, hv, if_pos rfl]; unfold cellTx; rw [if_pos h]; rfl
theorem line_num {r : Nat → Int} {y x u : Nat} (hv : r (y * 8 + x) = (u : Int)) (hx : x ≠ 0) : lineTx r y (x + 1) = lineTx r y x ++ (32 :: Lib.decDigits u) := by
  show lineTx r y x ++ ((if x = 0 then [] else [32]) ++ cellTx (r (y * 8 + x))) = _
  rw [hv, if_neg hx]; unfold cellTx; rw [if_neg (by omega)]; rfl
theorem line_num0 {r : Nat → Int} {y u : Nat} (hv : r (y * 8) = (u : Int)) : lineTx r y 1 = lineTx r y 0 ++ Lib.decDigits u := by
  show lineTx r y 0 ++ ((if 0 = 0 then [] else [32]) ++ cellTx (r (y * 8 + 0))) = _
  rw [Nat.add_zero, hv, if_pos rfl]; unfold cellTx; rw [if_neg (by omega)]; rfl
theorem ring_line (r : Nat → Int) (W y : Nat) : ringTx r W (y + 1) = ringTx r W y ++ (lineTx r y W ++ [10]) := rfl
end Go.Proofs.YtkdfkhjoijfcdaaDoor
/- Rings: the program's test. -/
namespace Go.Proofs.YtkdfkhjoijfcdaaDoor
open Go.RowKit
set_option linter.unusedVariables false
set_option linter.unusedSimpArgs false
set_option maxRecDepth 100000
set_option maxHeartbeats 8000000 in
theorem areRings_any (p : Nat) (c r : Nat → Int) (hfc : FitSheet c) (hfr : ∀ j, j < 64 → -32768 ≤ r j ∧ r j ≤ 32767) (w : World) (hr : rowOf w p = kc sk 266 c) (hp : p < w.heap.size) :
    Calls Tryd.prog 20 #[.pointer (some ⟨p, 0, none⟩), .agg (kc rk 64 r)] w fun e w' => e = .returned (.bool (ringB c r)) ∧ Below w.heap.size w w' := by
  have HF := Lib.hid hfr
  clear hfr
  go_enter Tryd.func20, Tryd.ntmps20
  go_wp2
  go_loopw [11] (fun i wr => ∃ y : Nat, y ≤ 8 ∧ i = .int .i64 y ∧ Below w.heap.size w wr ∧ RingTo c r y 0) (fun i wr => 9 - (intOf i).toNat)
  case atStart => exact ⟨0, by omega, rfl, by repeat' (first | with_reducible exact Below.refl _ _ | with_reducible assumption | with_reducible refine Below.drew ?_ | with_reducible refine Below.drewN ?_ _ | with_reducible refine Below.alloc ?_ ?_ _ | with_reducible refine Below.setCell ?_ ?_ _ | with_reducible refine Below.setRow ?_ ?_ _ | with_reducible refine below_step (by assumption) ?_ ?_ | (show (_ : Nat) ≤ _; first | omega | (simp <;> omega))), fun i j h => by omega, fun j h => by omega⟩
  case round =>
    obtain ⟨y, hy, rfl, hb, hto⟩ := hrel
    have HT := Lib.hid hto
    clear hto
    have hrp := (keep_row hb hp).trans hr
    have hpw : p < wr.heap.size := Nat.lt_of_lt_of_le hp hb.size
    have hsz0 := hb.size
    by_cases hy8 : y < 8
    · have hyd : (y : Int) < 8 := by omega
      have hw8y : IntKind.i8.wrap (y : Int) = (y : Int) := by simp only [IntKind.wrap, IntKind.bits, IntKind.signed]; simp; omega
      have hwy : IntKind.i64.wrap ((y : Int) + 1) = (y : Int) + 1 := IntWalk.i64_in _ (by omega)
      go_wp2
      go_loopw [16] (fun i wx => ∃ x : Nat, x ≤ 8 ∧ i = .int .i64 x ∧ Below w.heap.size w wx ∧ RingTo c r y x) (fun i wx => 9 - (intOf i).toNat)
      case atStart => exact ⟨0, by omega, rfl, by repeat' (first | with_reducible exact Below.refl _ _ | with_reducible assumption | with_reducible refine Below.drew ?_ | with_reducible refine Below.drewN ?_ _ | with_reducible refine Below.alloc ?_ ?_ _ | with_reducible refine Below.setCell ?_ ?_ _ | with_reducible refine Below.setRow ?_ ?_ _ | with_reducible refine below_step (by assumption) ?_ ?_ | (show (_ : Nat) ≤ _; first | omega | (simp <;> omega))), HT.out⟩
      case round =>
        obtain ⟨x, hx, rfl, hb2, hto2⟩ := hrel
        have HT2 := Lib.hid hto2
        clear hto2 hrp hpw
        have hsz := hb2.size
        have hrp := (keep_row hb2 hp).trans hr
        have hpw : p < wr.heap.size := Nat.lt_of_lt_of_le hp hb2.size
        by_cases hx8 : x < 8
        · have hxd : (x : Int) < 8 := by omega
          have hw8x : IntKind.i8.wrap (x : Int) = (x : Int) := by simp only [IntKind.wrap, IntKind.bits, IntKind.signed]; simp; omega
          have hwx : IntKind.i64.wrap ((x : Int) + 1) = (x : Int) + 1 := IntWalk.i64_in _ (by omega)
          have hv := HF.out (y * 8 + x) (by omega)
          have HIS0 := fun w hr hp => has_any p c hfc (x : Int) (y : Int) (by omega) (by omega) w hr hp
          have hdef : ringC c r y x = (inB (r (y * 8 + x)) (-1) 500 && (isP c x y || decide (r (y * 8 + x) = -1))) := rfl
          have hwv : IntKind.i64.wrap (r (y * 8 + x)) = r (y * 8 + x) := IntWalk.i64_in _ (by omega)
          have HIN0 := fun w => within_any (r (y * 8 + x)) (-1) 500 w
          have hw64 : wrap64 (r (y * 8 + x)) = r (y * 8 + x) := by unfold wrap64; omega
          obtain ⟨v, hrv⟩ : ∃ v, r (y * 8 + x) = v := ⟨_, rfl⟩
          rw [hrv] at hv hdef hwv HIN0 hw64
          generalize isP c x y = b at *
          cases b
          case true =>
            rcases Bool.eq_false_or_eq_true (inB v (-1) 500) with h1 | h1
            case inr =>
              rw [h1] at HIN0 hdef
              have HIN := Lib.hid HIN0
              have HIS := Lib.hid HIS0
              have HE := Lib.hid (ringB_no hy8 hx8 hdef)
              clear HIN0 HIS0 hdef h1
              go_wp2_with (first | (go_at_call 29; (with_reducible refine (HIN.out _).mono ?_); rintro e w1 ⟨rfl, rfl⟩) | (go_at_call 17; refine (HIS.out _ (by (go_simp <;> (intros; omega))) (by first | omega | (simp <;> omega))).mono ?_; rintro e w1 ⟨rfl, hb1⟩; have r1 := keep_rowA hb1; have f1 := keep_frA hb1; have s1 := hb1.size; (try simp only [World.size_alloc, World.size_setCell, setRow_size, World.size_drew, size_drewNm] at r1 f1 s1)))
              go_ret
              exact ⟨by rw [HE.out]; rfl, by repeat' (first | with_reducible exact Below.refl _ _ | with_reducible assumption | with_reducible refine Below.drew ?_ | with_reducible refine Below.drewN ?_ _ | with_reducible refine Below.alloc ?_ ?_ _ | with_reducible refine Below.setCell ?_ ?_ _ | with_reducible refine Below.setRow ?_ ?_ _ | with_reducible refine below_step (by assumption) ?_ ?_ | (show (_ : Nat) ≤ _; first | omega | (simp <;> omega)))⟩
            rw [h1] at HIN0 hdef
            have HIN := Lib.hid HIN0
            have HIS := Lib.hid HIS0
            have HN := Lib.hid (ring_next HT2.out (x := x) hdef)
            clear HIN0 HIS0 hdef h1
            go_wp2_with (first | (go_at_call 29; (with_reducible refine (HIN.out _).mono ?_); rintro e w1 ⟨rfl, rfl⟩) | (go_at_call 17; refine (HIS.out _ (by (go_simp <;> (intros; omega))) (by first | omega | (simp <;> omega))).mono ?_; rintro e w1 ⟨rfl, hb1⟩; have r1 := keep_rowA hb1; have f1 := keep_frA hb1; have s1 := hb1.size; (try simp only [World.size_alloc, World.size_setCell, setRow_size, World.size_drew, size_drewNm] at r1 f1 s1)))
            go_roundw
            case rel => first | exact ⟨x + 1, by omega, by go_num, by repeat' (first | with_reducible exact Below.refl _ _ | with_reducible assumption | with_reducible refine Below.drew ?_ | with_reducible refine Below.drewN ?_ _ | with_reducible refine Below.alloc ?_ ?_ _ | with_reducible refine Below.setCell ?_ ?_ _ | with_reducible refine Below.setRow ?_ ?_ _ | with_reducible refine below_step (by assumption) ?_ ?_ | (show (_ : Nat) ≤ _; first | omega | (simp <;> omega))), HN.out⟩ | ((repeat (with_reducible apply Exists.intro)); refine And.intro ?_ ?_; rotate_left; (focus ((repeat' (with_reducible apply And.intro)) <;> rfl)); exact ⟨x + 1, by omega, by go_num, by repeat' (first | with_reducible exact Below.refl _ _ | with_reducible assumption | with_reducible refine Below.drew ?_ | with_reducible refine Below.drewN ?_ _ | with_reducible refine Below.alloc ?_ ?_ _ | with_reducible refine Below.setCell ?_ ?_ _ | with_reducible refine Below.setRow ?_ ?_ _ | with_reducible refine below_step (by assumption) ?_ ?_ | (show (_ : Nat) ≤ _; first | omega | (simp <;> omega))), HN.out⟩)
            case measure => simp [intOf]; omega
          case false =>
            have HIS := Lib.hid HIS0
            clear HIS0 HIN0
            by_cases hm : v = -1
            · have HN := Lib.hid (ring_next HT2.out (x := x) (by rw [hdef, hm]; rfl))
              clear hdef
              subst hm
              go_wp2_with ((go_at_call 17; refine (HIS.out _ (by (go_simp <;> (intros; omega))) (by first | omega | (simp <;> omega))).mono ?_; rintro e w1 ⟨rfl, hb1⟩; have r1 := keep_rowA hb1; have f1 := keep_frA hb1; have s1 := hb1.size; (try simp only [World.size_alloc, World.size_setCell, setRow_size, World.size_drew, size_drewNm] at r1 f1 s1)))
              go_roundw
              case rel => first | exact ⟨x + 1, by omega, by go_num, by repeat' (first | with_reducible exact Below.refl _ _ | with_reducible assumption | with_reducible refine Below.drew ?_ | with_reducible refine Below.drewN ?_ _ | with_reducible refine Below.alloc ?_ ?_ _ | with_reducible refine Below.setCell ?_ ?_ _ | with_reducible refine Below.setRow ?_ ?_ _ | with_reducible refine below_step (by assumption) ?_ ?_ | (show (_ : Nat) ≤ _; first | omega | (simp <;> omega))), HN.out⟩ | ((repeat (with_reducible apply Exists.intro)); refine And.intro ?_ ?_; rotate_left; (focus ((repeat' (with_reducible apply And.intro)) <;> rfl)); exact ⟨x + 1, by omega, by go_num, by repeat' (first | with_reducible exact Below.refl _ _ | with_reducible assumption | with_reducible refine Below.drew ?_ | with_reducible refine Below.drewN ?_ _ | with_reducible refine Below.alloc ?_ ?_ _ | with_reducible refine Below.setCell ?_ ?_ _ | with_reducible refine Below.setRow ?_ ?_ _ | with_reducible refine below_step (by assumption) ?_ ?_ | (show (_ : Nat) ≤ _; first | omega | (simp <;> omega))), HN.out⟩)
              case measure => simp [intOf]; omega
            · have HE := Lib.hid (ringB_no hy8 hx8 (by rw [hdef, decide_eq_false hm]; simp))
              clear hdef
              have hm3 : (v == -1) = false := by rw [beq_eq_false_iff_ne]; exact hm
              have hm4 : (v != -1) = true := by unfold bne; rw [hm3]; rfl
              go_wp2_with ((go_at_call 17; refine (HIS.out _ (by (go_simp <;> (intros; omega))) (by first | omega | (simp <;> omega))).mono ?_; rintro e w1 ⟨rfl, hb1⟩; have r1 := keep_rowA hb1; have f1 := keep_frA hb1; have s1 := hb1.size; (try simp only [World.size_alloc, World.size_setCell, setRow_size, World.size_drew, size_drewNm] at r1 f1 s1)))
              go_ret
              exact ⟨by rw [HE.out]; rfl, by repeat' (first | with_reducible exact Below.refl _ _ | with_reducible assumption | with_reducible refine Below.drew ?_ | with_reducible refine Below.drewN ?_ _ | with_reducible refine Below.alloc ?_ ?_ _ | with_reducible refine Below.setCell ?_ ?_ _ | with_reducible refine Below.setRow ?_ ?_ _ | with_reducible refine below_step (by assumption) ?_ ?_ | (show (_ : Nat) ≤ _; first | omega | (simp <;> omega)))⟩
        · have hxe : x = 8 := by omega
          subst hxe
          go_wp2
          go_roundw
          case rel => first | exact ⟨y + 1, by omega, by go_num, by repeat' (first | with_reducible exact Below.refl _ _ | with_reducible assumption | with_reducible refine Below.drew ?_ | with_reducible refine Below.drewN ?_ _ | with_reducible refine Below.alloc ?_ ?_ _ | with_reducible refine Below.setCell ?_ ?_ _ | with_reducible refine Below.setRow ?_ ?_ _ | with_reducible refine below_step (by assumption) ?_ ?_ | (show (_ : Nat) ≤ _; first | omega | (simp <;> omega))), ring_row HT2.out⟩ | ((repeat (with_reducible apply Exists.intro)); refine And.intro ?_ ?_; rotate_left; (focus ((repeat' (with_reducible apply And.intro)) <;> rfl)); exact ⟨y + 1, by omega, by go_num, by repeat' (first | with_reducible exact Below.refl _ _ | with_reducible assumption | with_reducible refine Below.drew ?_ | with_reducible refine Below.drewN ?_ _ | with_reducible refine Below.alloc ?_ ?_ _ | with_reducible refine Below.setCell ?_ ?_ _ | with_reducible refine Below.setRow ?_ ?_ _ | with_reducible refine below_step (by assumption) ?_ ?_ | (show (_ : Nat) ≤ _; first | omega | (simp <;> omega))), ring_row HT2.out⟩)
          case measure => simp [intOf]; omega
    · have hye : y = 8 := by omega
      subst hye
      have HE := Lib.hid (ringB_yes (fun i j hi hj => HT.out.1 i j hi hj))
      go_wp2
      go_ret
      exact ⟨by rw [HE.out]; rfl, by repeat' (first | with_reducible exact Below.refl _ _ | with_reducible assumption | with_reducible refine Below.drew ?_ | with_reducible refine Below.drewN ?_ _ | with_reducible refine Below.alloc ?_ ?_ _ | with_reducible refine Below.setCell ?_ ?_ _ | with_reducible refine Below.setRow ?_ ?_ _ | with_reducible refine below_step (by assumption) ?_ ?_ | (show (_ : Nat) ≤ _; first | omega | (simp <;> omega)))⟩
end Go.Proofs.YtkdfkhjoijfcdaaDoor
/- Rings as an argument; the texts of both sides. -/
namespace Go.Proofs.YtkdfkhjoijfcdaaDoor
open Go.RowKit Go.Sort
set_option linter.unusedVariables false
set_option linter.unusedSimpArgs false
set_option maxRecDepth 100000
theorem okS_sides2 {c : Nat → Int} (h : okS c = true) : ∃ W H : Nat, c 0 = W ∧ c 1 = H ∧ 0 < W ∧ 0 < H ∧ W ≤ 8 ∧ H ≤ 8 := by
  have hk : OkS c := by simpa [okS] using h
  obtain ⟨⟨h1, h2⟩, ⟨h3, h4⟩, -⟩ := hk
  exact ⟨(c 0).toNat, (c 1).toNat, by omega, by omega, by omega, by omega, by omega, by omega⟩
open Classical in
theorem ringB_ok {c r : Nat → Int} (h : ringB c r = true) : RingOk r := fun j hj => by
  have hk := (of_decide_eq_true h : ∀ i j, i < 8 → j < 8 → ringC c r i j = true) (j / 8) (j % 8) (by omega) (by omega)
  unfold ringC at hk
  rw [Bool.and_eq_true] at hk
  have := inB_true.1 hk.1
  rw [show j / 8 * 8 + j % 8 = j from by omega] at this
  exact this
noncomputable def rgTx (c r : Nat → Int) : List UInt8 := if okS c = true ∧ ringB c r = true then ringTx r (c 0).toNat (c 1).toNat else []
theorem rg_no1 {c r : Nat → Int} (h : okS c = false) : rgTx c r = [] := if_neg (fun g => by rw [h] at g; exact absurd g.1 (by decide))
theorem rg_no2 {c r : Nat → Int} (h : ringB c r = false) : rgTx c r = [] := if_neg (fun g => by rw [h] at g; exact absurd g.2 (by decide))
theorem rg_yes {c r : Nat → Int} {W H : Nat} (h1 : okS c = true) (h2 : ringB c r = true) (hW : c 0 = W) (hH : c 1 = H) : rgTx c r = ringTx r W H := by
  unfold rgTx
  rw [if_pos ⟨h1, h2⟩, hW, hH]; rfl
theorem ringsText_any (p : Nat) (c r : Nat → Int) (W H : Nat) (hW : c 0 = W) (hH : c 1 = H) (W8 : W ≤ 8) (H8 : H ≤ 8) (W0 : 0 < W) (hfr : RingOk r) (w : World) (hr : rowOf w p = kc sk 266 c) (hp : p < w.heap.size) (ht : TabW w) :
    Calls Tryd.prog 21 #[.pointer (some ⟨p, 0, none⟩), .agg (kc rk 64 r)] w fun e w' => e = .returned (.string (tx (ringTx r W H))) ∧ Below w.heap.size w w' := by
  have HT := Lib.hid ht
  have HL := Lib.hid (fun q w h1 h2 h3 h4 h5 => lines_any p q c r W H hW hH W8 H8 W0 hfr w h1 h2 h3 h4 h5)
  clear ht hfr
  go_enter Tryd.func21, Tryd.ntmps21
  go_wp2_with (go_at_call 39; refine (HL.out w.heap.size _ (by (go_simp <;> (intros; omega))) (by first | omega | (simp <;> omega)) (by (go_simp <;> (intros; omega))) (by first | omega | (simp <;> omega)) (tabW_below HT.out (by repeat' (first | with_reducible exact Below.refl _ _ | with_reducible assumption | with_reducible refine Below.drew ?_ | with_reducible refine Below.drewN ?_ _ | with_reducible refine Below.alloc ?_ ?_ _ | with_reducible refine Below.setCell ?_ ?_ _ | with_reducible refine Below.setRow ?_ ?_ _ | with_reducible refine below_step (by assumption) ?_ ?_ | (show (_ : Nat) ≤ _; first | omega | (simp <;> omega)))))).mono ?_; rintro e w1 ⟨rfl, hb1⟩; have r_hb1 := keep_rowA hb1; have f_hb1 := keep_frA hb1; have s_hb1 := hb1.size; (try simp only [World.size_alloc, World.size_setCell, setRow_size, World.size_drew, size_drewNm] at r_hb1 f_hb1 s_hb1))
  go_ret
  exact ⟨rfl, by repeat' (first | with_reducible exact Below.refl _ _ | with_reducible assumption | with_reducible refine Below.drew ?_ | with_reducible refine Below.drewN ?_ _ | with_reducible refine Below.alloc ?_ ?_ _ | with_reducible refine Below.setCell ?_ ?_ _ | with_reducible refine Below.setRow ?_ ?_ _ | with_reducible refine below_step (by assumption) ?_ ?_ | (show (_ : Nat) ≤ _; first | omega | (simp <;> omega)))⟩
end Go.Proofs.YtkdfkhjoijfcdaaDoor
