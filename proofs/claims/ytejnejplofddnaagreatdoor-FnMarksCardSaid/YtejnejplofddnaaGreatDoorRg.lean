/- Several texts in one: Dec RText LinesP DecI Lines RTextS RingI RingT. -/
import Derived.Test.YtejnejplofddnaaGreatDoorGqA
import Derived.Test.YtejnejplofddnaaGreatDoorHeld
import Derived.Test.YtejnejplofddnaaGreatDoorCell
import Derived.Test.YtejnejplofddnaaGreatDoorShelfC
import Derived.Lib.SmallJoins
import Derived.Test.YtejnejplofddnaaGreatDoorGqB
import Derived.Test.YtejnejplofddnaaGreatDoorShelfB
import Derived.Test.YtejnejplofddnaaGreatDoorSheetOkI
/- The text of a number, however many digits: the reference. -/
namespace Go.Proofs.YtejnejplofddnaaGreatDoor
open Go.RowKit
set_option linter.unusedVariables false
set_option linter.unusedSimpArgs false
set_option maxRecDepth 100000
theorem dec_more {n : Nat} (h : 10 ≤ n) : Lib.decDigits n = Lib.decDigits (n / 10) ++ [by8 (48 + (n : Int) % 10)] := by
  rw [Lib.decDigits, dif_neg (by omega)]
  unfold by8
  rw [show (48 + (n : Int) % 10).toNat = 48 + n % 10 from by omega]
theorem dec_len : ∀ (n : Nat), (Lib.decDigits n).length ≤ n + 1 := by
  intro n
  induction n using Nat.strongRecOn with
  | _ n ih =>
    rcases Nat.lt_or_ge n 10 with h | h
    · rw [dec_one h]; simp
    · rw [dec_more h, List.length_append]
      have := ih (n / 10) (by omega)
      simp; omega
end Go.Proofs.YtejnejplofddnaaGreatDoor
/- The text of rings: what both sides write, and the reference. -/
namespace Go.Proofs.YtejnejplofddnaaGreatDoor
open Go.RowKit
set_option linter.unusedVariables false
set_option linter.unusedSimpArgs false
set_option maxRecDepth 100000
abbrev rk : Nat → IntKind := fun _ => .i16
/-- A ring's number may stand at a place. -/
def ringC (c r : Nat → Int) (y x : Nat) : Bool := inB (r (y * 8 + x)) (-1) 500 && (isP c x y || decide (r (y * 8 + x) = -1))
def RingTo (c r : Nat → Int) (y x : Nat) : Prop := (∀ i j, i < y → j < 8 → ringC c r i j = true) ∧ ∀ j, j < x → ringC c r y j = true
open Classical in
noncomputable def ringB (c r : Nat → Int) : Bool := decide (∀ i j, i < 8 → j < 8 → ringC c r i j = true)
open Classical in
theorem ringB_no {c r : Nat → Int} {y x : Nat} (hy : y < 8) (hx : x < 8) (h : ringC c r y x = false) : ringB c r = false := decide_eq_false (fun g => by have := g y x hy hx; rw [h] at this; cases this)
open Classical in
theorem ringB_yes {c r : Nat → Int} (h : ∀ i j, i < 8 → j < 8 → ringC c r i j = true) : ringB c r = true := decide_eq_true h
theorem ring_next {c r : Nat → Int} {y x : Nat} (h : RingTo c r y x) (g : ringC c r y x = true) : RingTo c r y (x + 1) := ⟨h.1, fun j hj => by
  rcases Nat.lt_succ_iff_lt_or_eq.1 hj with h2 | rfl
  · exact h.2 j h2
  · exact g⟩
theorem ring_row {c r : Nat → Int} {y : Nat} (h : RingTo c r y 8) : RingTo c r (y + 1) 0 := ⟨fun i j hi hj => by
  rcases Nat.lt_succ_iff_lt_or_eq.1 hi with h2 | rfl
  · exact h.1 i j h2 hj
  · exact h.2 j hj, fun j hj => by omega⟩
/-- The texts. -/
def cellTx (v : Int) : List UInt8 := if v < 0 then [45] else Lib.decDigits v.toNat
def lineTx (r : Nat → Int) (y : Nat) : Nat → List UInt8
  | 0 => []
  | x + 1 => lineTx r y x ++ ((if x = 0 then [] else [32]) ++ cellTx (r (y * 8 + x)))
def ringTx (r : Nat → Int) (W : Nat) : Nat → List UInt8
  | 0 => []
  | y + 1 => ringTx r W y ++ (lineTx r y W ++ [10])
def RingOk (r : Nat → Int) : Prop := ∀ j, j < 64 → -1 ≤ r j ∧ r j ≤ 500
theorem cellTx_len {v : Int} (h : v ≤ 500) : (cellTx v).length ≤ 501 := by
  unfold cellTx
  split
  · simp
  · have := dec_len v.toNat; omega
theorem lineTx_len {r : Nat → Int} (h : RingOk r) {y : Nat} (hy : y < 8) : ∀ x, x ≤ 8 → (lineTx r y x).length ≤ 502 * x
  | 0, _ => Nat.le_refl _
  | x + 1, hx => by
    have := lineTx_len h hy x (by omega)
    have := cellTx_len (h (y * 8 + x) (by omega)).2
    show (lineTx r y x ++ _).length ≤ _
    rw [List.length_append, List.length_append]
    split <;> simp <;> omega
theorem ringTx_len {r : Nat → Int} (h : RingOk r) {W : Nat} (hW : W ≤ 8) : ∀ y, y ≤ 8 → (ringTx r W y).length ≤ 4017 * y
  | 0, _ => Nat.le_refl _
  | y + 1, hy => by
    have := ringTx_len h hW y (by omega)
    have := lineTx_len h (y := y) (by omega) W hW
    show (ringTx r W y ++ _).length ≤ _
    rw [List.length_append, List.length_append]
    simp; omega
end Go.Proofs.YtejnejplofddnaaGreatDoor
/- Lines of words: plain. -/
namespace Go.Proofs.YtejnejplofddnaaGreatDoor
set_option linter.unusedVariables false
set_option linter.unusedSimpArgs false
set_option maxRecDepth 100000
def rowW (cell : Nat → Nat → List UInt8) (y : Nat) : Nat → List (List UInt8)
  | 0 => []
  | x + 1 => rowW cell y x ++ [cell x y]
def linesTx (cell : Nat → Nat → List UInt8) (sep : List UInt8) (W : Nat) : Nat → List UInt8
  | 0 => []
  | y + 1 => linesTx cell sep W y ++ (Lib.join (rowW cell y W) sep ++ [10])
theorem rowW_len (cell : Nat → Nat → List UInt8) (y : Nat) : ∀ x, (rowW cell y x).length = x
  | 0 => rfl
  | x + 1 => by show (rowW cell y x ++ _).length = _; rw [List.length_append, rowW_len cell y x]; rfl
theorem rowW_next (cell : Nat → Nat → List UInt8) (y x : Nat) : rowW cell y (x + 1) = rowW cell y x ++ [cell x y] := rfl
theorem row_line (r : Nat → Int) (y : Nat) : ∀ x, Lib.join (rowW (fun x y => cellTx (r (y * 8 + x))) y x) [32] = lineTx r y x
  | 0 => rfl
  | x + 1 => by
    show Lib.join (rowW _ y x ++ [cellTx (r (y * 8 + x))]) [32] = lineTx r y x ++ _
    rcases Nat.eq_zero_or_pos x with rfl | hx
    · rw [if_pos rfl]; show Lib.join [_] [32] = [] ++ _; rw [Lib.join_one]; rfl
    · rw [join_snoc _ _ _ (fun h => by have := congrArg List.length h; rw [rowW_len] at this; simp at this; omega), row_line r y x, if_neg (by omega)]
theorem lines_ring (r : Nat → Int) (W : Nat) : ∀ y, linesTx (fun x y => cellTx (r (y * 8 + x))) [32] W y = ringTx r W y
  | 0 => rfl
  | y + 1 => by
    show linesTx _ [32] W y ++ (Lib.join (rowW _ y W) [32] ++ [10]) = ringTx r W y ++ (lineTx r y W ++ [10])
    rw [lines_ring r W y, row_line]
/-- How long: cells of at most m bytes, a separator of at most one. -/
theorem join_len {sep : List UInt8} (hs : sep.length ≤ 1) {m : Nat} : ∀ {l : List (List UInt8)}, (∀ x ∈ l, x.length ≤ m) → (Lib.join l sep).length ≤ (m + 1) * l.length
  | [], _ => Nat.zero_le _
  | x :: r, h => by
    have hr : ∀ {r : List (List UInt8)}, (∀ x ∈ r, x.length ≤ m) → (Lib.joinTail sep r).length ≤ (m + 1) * r.length := by
      intro r
      induction r with
      | nil => intro _; simp [Lib.joinTail]
      | cons y r ih =>
        intro h
        have h1 := ih (fun z hz => h z (List.mem_cons_of_mem _ hz))
        have h2 := h y (by simp)
        have e : Lib.joinTail sep (y :: r) = (sep ++ y) ++ Lib.joinTail sep r := by simp [Lib.joinTail]
        rw [e, List.length_append, List.length_append, List.length_cons, Nat.mul_succ]; omega
    rw [Lib.join_cons, List.length_append, List.length_cons, Nat.mul_succ]
    have := hr (fun z hz => h z (List.mem_cons_of_mem _ hz))
    have := h x (by simp)
    omega
theorem rowW_mem {cell : Nat → Nat → List UInt8} {y : Nat} : ∀ {x : Nat} {z : List UInt8}, z ∈ rowW cell y x → ∃ j, j < x ∧ z = cell j y
  | 0, z, h => by cases h
  | x + 1, z, h => by
    rcases List.mem_append.1 h with h | h
    · obtain ⟨j, hj, e⟩ := rowW_mem h; exact ⟨j, by omega, e⟩
    · exact ⟨x, by omega, List.mem_singleton.1 h⟩
theorem row_len {cell : Nat → Nat → List UInt8} {m : Nat} {sep : List UInt8} (hs : sep.length ≤ 1) {y W : Nat} (h : ∀ x, x < W → (cell x y).length ≤ m) : (Lib.join (rowW cell y W) sep).length ≤ (m + 1) * W := by
  have := join_len hs (m := m) (l := rowW cell y W) (fun z hz => by obtain ⟨j, hj, rfl⟩ := rowW_mem hz; exact h j hj)
  rwa [rowW_len] at this
theorem linesTx_len {cell : Nat → Nat → List UInt8} {m : Nat} {sep : List UInt8} (hs : sep.length ≤ 1) {W : Nat} : ∀ {y : Nat}, (∀ x j, x < W → j < y → (cell x j).length ≤ m) → (linesTx cell sep W y).length ≤ ((m + 1) * W + 1) * y
  | 0, _ => Nat.zero_le _
  | y + 1, h => by
    have h1 := linesTx_len hs (y := y) (fun x j hx hj => h x j hx (by omega))
    have h2 := row_len hs (m := m) (y := y) (W := W) (cell := cell) (fun x hx => h x y hx (by omega))
    show (linesTx cell sep W y ++ _).length ≤ _
    rw [List.length_append, List.length_append, Nat.mul_succ]
    simp; omega
theorem join_tx (l : List (List UInt8)) (sep : List UInt8) : Lib.join ((l.map tx).map (·.data.toList)) (tx sep).data.toList = Lib.join l sep := by
  have e : (l.map tx).map (·.data.toList) = l := by
    rw [List.map_map]
    exact (List.map_congr_left (fun l _ => by show (tx l).data.toList = l; unfold tx; rfl)).trans (List.map_id _)
  rw [e]; rfl
end Go.Proofs.YtejnejplofddnaaGreatDoor
/- The text of a number, however many digits: the program, out of the laid table. -/
namespace Go.Proofs.YtejnejplofddnaaGreatDoor
open Go.RowKit Go.Sort
set_option linter.unusedVariables false
set_option linter.unusedSimpArgs false
set_option maxRecDepth 100000
theorem below_grew2 (w : World) (q : Nat) (os : Array Obj) : Below w.heap.size w (grow (w.drewN q) os) :=
  ⟨rfl, rfl, rfl, by simp, fun b hb => by
    show (w.heap ++ os)[b]? = w.heap[b]?
    rw [Array.getElem?_append, if_pos hb]⟩
abbrev TabW (w : World) : Prop := Lib.TabIs Tryz.prog w "internal/strconv.uint64pow10" .u64 Lib.pow10Tab
theorem decimal_tab (i : Nat) (hi : i ≤ 1000000) (w : World) (ht : TabW w) : Calls Tryz.prog 67 #[.int .i64 i] w fun e w' => e = .returned (.string (tx (Lib.decDigits i))) ∧ Below w.heap.size w w' := by
  have HF := Lib.hid (fun w ht => Tryz.strconv_FormatInt_10 (i : Int) (by omega) (by omega) w ht)
  have HT := Lib.hid ht
  have HE := Lib.hid (Lib.itoa_nonneg i)
  clear ht
  go_enter Tryz.func67, Tryz.ntmps67
  go_wp2_with (go_at_call 114; refine (HF.out _ HT.out).mono ?_; rintro e w1 ⟨rfl, q, os, rfl⟩)
  go_ret
  exact ⟨by rw [← HE.out]; rfl, below_grew2 _ _ _⟩
end Go.Proofs.YtejnejplofddnaaGreatDoor
/- Lines of words: the program, at the closure that gives a ring's text. -/
namespace Go.Proofs.YtejnejplofddnaaGreatDoor
open Go.RowKit Go.Sort
set_option linter.unusedVariables false
set_option linter.unusedSimpArgs false
set_option maxRecDepth 100000
theorem strV_snocL (D : List (List UInt8)) (x : List UInt8) : strV (D ++ [x]) = strV D ++ [.string (tx x)] := by unfold strV; rw [List.map_append]; rfl
theorem varL_below {P : Program} {n : String} {cs : Array Value} {w w' : World} (h : w.var? P n = some cs) (hb : Below w.heap.size w w') : w'.var? P n = some cs := by
  unfold World.var? at h ⊢
  cases hg : P.globalNamed n with
  | none => rw [hg] at h; cases h
  | some g =>
    rw [hg] at h
    simp only [Option.bind_some] at h ⊢
    have hlt : g < w.heap.size := by
      rcases Nat.lt_or_ge g w.heap.size with h' | h'
      · exact h'
      · rw [Array.getElem?_eq_none h'] at h; cases h
    rw [hb.block g hlt]
    exact h
theorem tabW_below {w w' : World} (h : TabW w) (hb : Below w.heap.size w w') : TabW w' := by
  show w'.var? _ _ = _
  exact varL_below h hb
theorem size_bld : (Tryz.prog.info? 165).map (·.size) = some 2 := by kernel_rfl
@[go_sem ↓] theorem toStore_bld (a : Addr) (v : Value) : storeVar 165 a v = storeR 165 a v := rfl
@[go_sem] theorem store_bld (w : World) (b o : Nat) (vs : Array Value) : (storeR 165 ⟨b, o, none⟩ (.agg vs)).run Tryz.prog w = storedRow Tryz.prog 165 2 w b o vs := run_store_rowA (P := Tryz.prog) 165 2 (by omega) size_bld w b o vs
@[go_sem ↓] theorem zero_bld (w : World) : (zeroValue 165).run Tryz.prog w = .ok (.agg #[.pointer none, .slice none 0 0]) w := by kernel_rfl
abbrev BldW (b : Nat) (l : List UInt8) (w : World) : Prop := Lib.IsBuilder 165 5 b b (Lib.byteCells l) w
theorem bld_below {b : Nat} {l : List UInt8} {w w' : World} (h : BldW b l w) (hb : Below w.heap.size w w') : BldW b l w' := by
  have key : ∀ p, Lib.BuilderAt 165 5 b b p (Lib.byteCells l) w → Lib.BuilderAt 165 5 b b p (Lib.byteCells l) w' := fun p h => by
    obtain ⟨h1, v, h2, h3, h4⟩ := h
    exact ⟨h1, v, (hb.block b (Array.getElem?_eq_some_iff.1 h2).1).trans h2, owns_below h3 hb, h4⟩
  exact h.elim (fun h => .inl (key _ h)) (fun h => .inr (key _ h))
theorem bld_fresh (w : World) : BldW w.heap.size [] ((w.alloc (.cells #[.pointer none, .slice none 0 0] 165)).setRow w.heap.size #[.pointer none, .slice none 0 0]) := by
  have hh := setRow_heap (w.alloc (.cells #[.pointer none, .slice none 0 0] 165)) w.heap.size _ #[Value.pointer none, .slice none 0 0] _ _ (heap_alloc_new w (.cells #[.pointer none, .slice none 0 0] 165))
  exact .inl ⟨Nat.le_refl _, .slice none 0 0, hh, World.ownsRow_nil _ _ _ _, by simp [Value.ownBlock]⟩
theorem cells_app (l m : List UInt8) : Lib.byteCells l ++ Lib.strCells (tx m) = Lib.byteCells (l ++ m) := by
  first | (unfold Lib.byteCells Lib.strCells; simp [tx]; done) | (simp [Lib.byteCells, Lib.strCells, tx]; done) | rfl
theorem write_any (b : Nat) (l m : List UInt8) (w : World) (h : BldW b l w) (hl : l.length + m.length ≤ 1048576) (hb : b ≤ w.heap.size) :
    Calls Tryz.prog 125 #[.pointer (some ⟨b, 0, none⟩), .string (tx m)] w fun e w' => ∃ x, e = .returned x ∧ BldW b (l ++ m) w' ∧ Below b w w' := by
  refine (Any.Builder_WriteString { Tryz.lays156 with } Tryz.Builder_Extra_156 b b (Lib.byteCells l) (tx m) w h (by rw [tx_size]; simp [Lib.byteCells]; omega) hb).mono fun e w' hq => ?_
  obtain ⟨he, hB, hbel⟩ := hq
  refine ⟨_, he, .inr ?_, hbel⟩
  rw [← cells_app]; exact hB
theorem string_any (b : Nat) (l : List UInt8) (w : World) (h : BldW b l w) (hb : b ≤ w.heap.size) :
    Calls Tryz.prog 127 #[.pointer (some ⟨b, 0, none⟩)] w fun e w' => e = .returned (.string (tx l)) ∧ Below b w w' := Tryz.Builder_String_any b b l w h hb
theorem join_any (g cap n : Nat) (base : Nat) (l : List (List UInt8)) (sep : List UInt8) (w : World) (hn : l.length = n) (h : w.ownsRow base 9 1 (.slice (some ⟨g, 0, none⟩) n cap) n (strV l)) (hlen : (Lib.join l sep).length ≤ 1048576) (hnn : n ≤ 1048576) :
    Calls Tryz.prog 126 #[.slice (some ⟨g, 0, none⟩) n cap, .string (tx sep)] w fun e w' => e = .returned (.string (tx (Lib.join l sep))) ∧ Below w.heap.size w w' := by
  obtain ⟨hg, hcap, hcells⟩ := owns_cells h
  subst hn
  have hm : (l.map tx).length = l.length := List.length_map _
  have hj := join_tx l sep
  have h0 := Tryz.strings_Join g 0 cap (l.map tx) (tx sep) w hcells hg (by rw [hm]; omega) (by rw [hm]; exact hcap) (by rw [hj]; omega)
  rw [hm, hj] at h0
  exact h0
theorem owns_pos2 {w : World} {base n s : Nat} {e : TypeId} {v : Value} {xs : List Value} (h : w.ownsRow base e s v n xs) (h0 : 0 < n) : ∃ g cap, v = .slice (some ⟨g, 0, none⟩) n cap ∧ base ≤ g ∧ g < w.heap.size ∧ n ≤ cap ∧ True := by
  obtain ⟨hl, ⟨rfl, rfl⟩ | ⟨g, cap, cur, rfl, hb, hg, h1, h2, h3, ht⟩⟩ := h
  · omega
  · exact ⟨g, cap, rfl, hb, (Array.getElem?_eq_some_iff.1 hg).1, h1, trivial⟩
end Go.Proofs.YtejnejplofddnaaGreatDoor
/- The text of rings: the reference. -/
namespace Go.Proofs.YtejnejplofddnaaGreatDoor
open Go.RowKit
set_option linter.unusedVariables false
set_option linter.unusedSimpArgs false
set_option maxRecDepth 100000
theorem line_neg {r : Nat → Int} {y x : Nat} {v : Int} (hv : r (y * 8 + x) = v) (hx : x ≠ 0) (h : v < 0) : lineTx r y (x + 1) = lineTx r y x ++ [32, 45] := by
  show lineTx r y x ++ ((if x = 0 then [] else [32]) ++ cellTx (r (y * 8 + x))) = _
  rw [hv, if_neg hx]; unfold cellTx; rw [if_pos h]; rfl
theorem line_neg0 {r : Nat → Int} {y : Nat} {v : Int} (hv : r (y * 8) = v) (h : v < 0) : lineTx r y 1 = lineTx r y 0 ++ [45] := by
  show lineTx r y 0 ++ ((if 0 = 0 then [] else [32]) ++ cellTx (r (y * 8 + 0))) = _
  rw [Nat.add_zero, hv, if_pos rfl]; unfold cellTx; rw [if_pos h]; rfl
theorem line_num {r : Nat → Int} {y x u : Nat} (hv : r (y * 8 + x) = (u : Int)) (hx : x ≠ 0) : lineTx r y (x + 1) = lineTx r y x ++ (32 :: Lib.decDigits u) := by
  show lineTx r y x ++ ((if x = 0 then [] else [32]) ++ cellTx (r (y * 8 + x))) = _
  rw [hv, if_neg hx]; unfold cellTx; rw [if_neg (by omega)]; rfl
theorem line_num0 {r : Nat → Int} {y u : Nat} (hv : r (y * 8) = (u : Int)) : lineTx r y 1 = lineTx r y 0 ++ Lib.decDigits u := by
  show lineTx r y 0 ++ ((if 0 = 0 then [] else [32]) ++ cellTx (r (y * 8 + 0))) = _
  rw [Nat.add_zero, hv, if_pos rfl]; unfold cellTx; rw [if_neg (by omega)]; rfl
theorem ring_line (r : Nat → Int) (W y : Nat) : ringTx r W (y + 1) = ringTx r W y ++ (lineTx r y W ++ [10]) := rfl
end Go.Proofs.YtejnejplofddnaaGreatDoor
/- Rings: the program's test. -/
namespace Go.Proofs.YtejnejplofddnaaGreatDoor
open Go.RowKit
set_option linter.unusedVariables false
set_option linter.unusedSimpArgs false
set_option maxRecDepth 100000
end Go.Proofs.YtejnejplofddnaaGreatDoor
/- Rings as an argument; the texts of both sides. -/
namespace Go.Proofs.YtejnejplofddnaaGreatDoor
open Go.RowKit Go.Sort
set_option linter.unusedVariables false
set_option linter.unusedSimpArgs false
set_option maxRecDepth 100000
theorem okS_sides2 {c : Nat → Int} (h : okS c = true) : ∃ W H : Nat, c 0 = W ∧ c 1 = H ∧ 0 < W ∧ 0 < H ∧ W ≤ 8 ∧ H ≤ 8 := by
  have hk : OkS c := by simpa [okS] using h
  obtain ⟨⟨h1, h2⟩, ⟨h3, h4⟩, -⟩ := hk
  exact ⟨(c 0).toNat, (c 1).toNat, by omega, by omega, by omega, by omega, by omega, by omega⟩
open Classical in
theorem ringB_ok {c r : Nat → Int} (h : ringB c r = true) : RingOk r := fun j hj => by
  have hk := (of_decide_eq_true h : ∀ i j, i < 8 → j < 8 → ringC c r i j = true) (j / 8) (j % 8) (by omega) (by omega)
  unfold ringC at hk
  rw [Bool.and_eq_true] at hk
  have := inB_true.1 hk.1
  rw [show j / 8 * 8 + j % 8 = j from by omega] at this
  exact this
noncomputable def rgTx (c r : Nat → Int) : List UInt8 := if okS c = true ∧ ringB c r = true then ringTx r (c 0).toNat (c 1).toNat else []
theorem rg_no1 {c r : Nat → Int} (h : okS c = false) : rgTx c r = [] := if_neg (fun g => by rw [h] at g; exact absurd g.1 (by decide))
theorem rg_no2 {c r : Nat → Int} (h : ringB c r = false) : rgTx c r = [] := if_neg (fun g => by rw [h] at g; exact absurd g.2 (by decide))
theorem rg_yes {c r : Nat → Int} {W H : Nat} (h1 : okS c = true) (h2 : ringB c r = true) (hW : c 0 = W) (hH : c 1 = H) : rgTx c r = ringTx r W H := by
  unfold rgTx
  rw [if_pos ⟨h1, h2⟩, hW, hH]; rfl
end Go.Proofs.YtejnejplofddnaaGreatDoor
