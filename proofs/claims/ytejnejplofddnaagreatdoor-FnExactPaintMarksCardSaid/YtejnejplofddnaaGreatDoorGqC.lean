/- Several texts in one: SlI OpenSl Kx SlV SlS SpotS MarkT MkS. -/
import Derived.Test.YtejnejplofddnaaGreatDoorBase
import Derived.Test.YtejnejplofddnaaGreatDoorCells
import Derived.Test.YtejnejplofddnaaGreatDoorWaterI
import Derived.Lib.Hide
import Derived.RegionTactic
import Derived.Test.YtejnejplofddnaaGreatDoorOpen
import Derived.Deep.Slices
import Derived.Test.YtejnejplofddnaaGreatDoorMem
import Derived.StillTailTactics
import Derived.Test.YtejnejplofddnaaGreatDoorAskBase
import Derived.Laws.MakeOwn
import Derived.Lib.SliceRun
/- Slices of numbers: the statements' own comparing, marking and looking up. -/
namespace Go.Proofs.YtejnejplofddnaaGreatDoor
open Go.RowKit
set_option linter.unusedVariables false
set_option linter.unusedSimpArgs false
set_option maxRecDepth 100000
/-- A slice of n elements of s numbers each, of one kind: the numbers are f's; if it isn't nil its block may be written and lies at base or behind. -/
def OwnK (k : IntKind) (s : Nat) (w : World) (base : Nat) (v : Value) (n : Nat) (f : Nat → Int) : Prop :=
  (v = .slice none 0 0 ∧ n = 0) ∨ ∃ g cap, v = .slice (some ⟨g, 0, none⟩) n cap ∧ base ≤ g ∧ g < w.heap.size ∧ frOf w g = (0, 0) ∧ n * s ≤ (rowOf w g).size ∧ ∀ j, j < n * s → (rowOf w g)[j]? = some (.int k (f j))
section
variable {k : IntKind} {s : Nat} {w w' : World} {base : Nat} {v : Value} {n : Nat} {f f' : Nat → Int}
theorem OwnK.len (h : OwnK k s w base v n f) : ∃ a cap, v = .slice a n cap := by
  rcases h with ⟨rfl, rfl⟩ | ⟨g, cap, rfl, _⟩ <;> exact ⟨_, _, rfl⟩
theorem OwnK.pos (h : OwnK k s w base v n f) (hn : 0 < n) : ∃ g cap, v = .slice (some ⟨g, 0, none⟩) n cap ∧ base ≤ g ∧ g < w.heap.size ∧ frOf w g = (0, 0) ∧ n * s ≤ (rowOf w g).size ∧ ∀ j, j < n * s → (rowOf w g)[j]? = some (.int k (f j)) := by
  rcases h with ⟨rfl, rfl⟩ | h
  · omega
  · exact h
theorem OwnK.of {e : TypeId} {xs : List Value} (h : w.ownsRow base e s v n xs) (hx : ∀ j, j < n * s → xs[j]? = some (.int k (f j))) : OwnK k s w base v n f := by
  obtain ⟨hl, ⟨rfl, rfl⟩ | ⟨g, cap, cur, rfl, hb, hg, h1, h2, h3, ht⟩⟩ := h
  · exact .inl ⟨rfl, rfl⟩
  · have hrow : rowOf w g = cur := by simp [rowOf, hg, objRow]
    refine .inr ⟨g, cap, rfl, hb, (Array.getElem?_eq_some_iff.1 hg).1, by simp [frOf, hg, objFr], by rw [hrow, h3]; exact Nat.mul_le_mul_right _ h1, fun j hj => ?_⟩
    have e := hx j hj
    rw [hrow, ← Array.getElem?_toList]
    rw [← ht, List.getElem?_take, if_pos hj] at e
    exact e
/-- The same for a slice that lies below B, though B lies below the heap's end. -/
theorem OwnK.belowLt (h : OwnK k s w base v n f) {B : Nat} (hb : Below B w w') (hB : ∀ g cap, v = .slice (some ⟨g, 0, none⟩) n cap → g < B) : OwnK k s w' base v n f := by
  rcases h with h | ⟨g, cap, rfl, h1, h2, h3, h4, h5⟩
  · exact .inl h
  · have hgB := hB g cap rfl
    have hr := keep_row hb hgB
    exact .inr ⟨g, cap, rfl, h1, Nat.lt_of_lt_of_le h2 hb.size, (keep_fr hb hgB).trans h3, by rw [hr]; exact h4, fun j hj => by rw [hr]; exact h5 j hj⟩
theorem OwnK.lt (h : OwnK k s w base v n f) : ∀ g cap, v = .slice (some ⟨g, 0, none⟩) n cap → g < w.heap.size := by
  intro g cap hv
  rcases h with ⟨rfl, rfl⟩ | ⟨g', cap', rfl, h1, h2, -⟩
  · cases hv
  · cases hv; exact h2
theorem OwnK.below (h : OwnK k s w base v n f) {B : Nat} (hb : Below B w w') (hB : w.heap.size ≤ B) : OwnK k s w' base v n f :=
  h.belowLt hb (fun g cap hv => Nat.lt_of_lt_of_le (h.lt g cap hv) hB)
theorem OwnK.congr (h : OwnK k s w base v n f) (hf : ∀ j, j < n * s → f j = f' j) : OwnK k s w base v n f' := by
  rcases h with h | ⟨g, cap, rfl, h1, h2, h3, h4, h5⟩
  · exact .inl h
  · exact .inr ⟨g, cap, rfl, h1, h2, h3, h4, fun j hj => by rw [← hf j hj]; exact h5 j hj⟩
theorem OwnK.down {b' : Nat} (h : OwnK k s w base v n f) (hb : b' ≤ base) : OwnK k s w b' v n f := by
  rcases h with h | ⟨g, cap, rfl, h1, h2⟩
  · exact .inl h
  · exact .inr ⟨g, cap, rfl, Nat.le_trans hb h1, h2⟩
/-- A slice that is only read: it may lie anywhere in a block. -/
def SlA (k : IntKind) (s : Nat) (w : World) (v : Value) (n : Nat) (f : Nat → Int) : Prop :=
  (v = .slice none 0 0 ∧ n = 0) ∨ ∃ a cap, v = .slice (some a) n cap ∧ (0 < n → ∃ g o, a = ⟨g, o, none⟩ ∧ g < w.heap.size ∧ ∀ j, j < n * s → (rowOf w g)[o + j]? = some (.int k (f j)))
theorem OwnK.slA (h : OwnK k s w base v n f) : SlA k s w v n f := by
  rcases h with h | ⟨g, cap, rfl, h1, h2, h3, h4, h5⟩
  · exact .inl h
  · exact .inr ⟨_, cap, rfl, fun _ => ⟨g, 0, rfl, h2, fun j hj => by rw [Nat.zero_add]; exact h5 j hj⟩⟩
theorem SlA.len (h : SlA k s w v n f) : ∃ a cap, v = .slice a n cap := by
  rcases h with ⟨rfl, rfl⟩ | ⟨g, cap, rfl, _⟩ <;> exact ⟨_, _, rfl⟩
theorem SlA.pos (h : SlA k s w v n f) (hn : 0 < n) : ∃ g o cap, v = .slice (some ⟨g, o, none⟩) n cap ∧ g < w.heap.size ∧ ∀ j, j < n * s → (rowOf w g)[o + j]? = some (.int k (f j)) := by
  rcases h with ⟨rfl, rfl⟩ | ⟨a, cap, rfl, h⟩
  · omega
  · obtain ⟨g, o, rfl, h2⟩ := h hn
    exact ⟨g, o, cap, rfl, h2⟩
theorem SlA.below (h : SlA k s w v n f) {B : Nat} (hb : Below B w w') (hB : w.heap.size ≤ B) : SlA k s w' v n f := by
  rcases h with h | ⟨a, cap, rfl, h⟩
  · exact .inl h
  · refine .inr ⟨a, cap, rfl, fun hn => ?_⟩
    obtain ⟨g, o, rfl, h2, h5⟩ := h hn
    have hr := keep_row hb (show g < B by omega)
    exact ⟨g, o, rfl, Nat.lt_of_lt_of_le h2 hb.size, fun j hj => by rw [hr]; exact h5 j hj⟩
end
/-- Two slices that don't lie in one block. -/
def Apart (v v' : Value) : Prop := ∀ g cap n g' cap' n', v = .slice (some ⟨g, 0, none⟩) n cap → v' = .slice (some ⟨g', 0, none⟩) n' cap' → g ≠ g'
theorem Apart.symm {v v' : Value} (h : Apart v v') : Apart v' v := fun g cap n g' cap' n' e1 e2 e => h g' cap' n' g cap n e2 e1 e.symm
theorem apart_of {k k' : IntKind} {s s' : Nat} {w w' : World} {b b' : Nat} {v v' : Value} {n n' : Nat} {f f' : Nat → Int} (h : OwnK k s w b v n f) (h' : OwnK k' s' w' b' v' n' f') (hle : w.heap.size ≤ b') : Apart v v' := by
  intro g cap m g' cap' m' e1 e2
  rcases h with ⟨rfl, rfl⟩ | ⟨g1, c1, rfl, h1, h2, -⟩
  · cases e1
  rcases h' with ⟨rfl, rfl⟩ | ⟨g2, c2, rfl, h3, -⟩
  · cases e2
  cases e1
  cases e2
  omega
theorem OwnK.apart {k : IntKind} {s : Nat} {w w' : World} {b : Nat} {v v' : Value} {n n' cap' g' : Nat} {f : Nat → Int} (h : OwnK k s w b v n f) (hv : v' = .slice (some ⟨g', 0, none⟩) n' cap') (ha : Apart v' v) (hsz : w.heap.size ≤ w'.heap.size) (hk : ∀ q, q ≠ g' → q < w.heap.size → rowOf w' q = rowOf w q ∧ frOf w' q = frOf w q) : OwnK k s w' b v n f := by
  rcases h with h | ⟨g, cap, rfl, h1, h2, h3, h4, h5⟩
  · exact .inl h
  · have hne : g' ≠ g := ha g' cap' n' g cap n hv rfl
    obtain ⟨e1, e2⟩ := hk g (fun e => hne e.symm) h2
    exact .inr ⟨g, cap, rfl, h1, by omega, e2.trans h3, by rw [e1]; exact h4, fun j hj => by rw [e1]; exact h5 j hj⟩
theorem below_le {B B' : Nat} {w w' : World} (h : Below B w w') (hB : B' ≤ B) : Below B' w w' := ⟨h.os, h.tape, h.output, h.size, fun k hk => h.block k (by omega)⟩
set_option maxHeartbeats 1000000 in
theorem eqInt64S_own (v1 v2 : Value) (n b1 b2 : Nat) (f : Nat → Int) (hn : n < 1099511627776) (w : World) (h1 : OwnK .i64 1 w b1 v1 n f) (h2 : OwnK .i64 1 w b2 v2 n f) :
    Calls Tryz.prog 32 #[v1, v2] w fun e w' => e = .returned (.bool true) ∧ Below w.heap.size w w' := by
  rcases Nat.eq_zero_or_pos n with hz | hp
  · subst hz
    obtain ⟨a1, c1, rfl⟩ := h1.len
    obtain ⟨a2, c2, rfl⟩ := h2.len
    clear h1 h2
    go_enter Tryz.func32, Tryz.ntmps32
    go_wp2
    go_loopw [5] (fun i wr => i = .int .i64 (0 : Nat) ∧ Below w.heap.size w wr) (fun i wr => 0)
    case atStart => exact ⟨rfl, by repeat' (first | with_reducible exact Below.refl _ _ | with_reducible assumption | with_reducible refine Below.drew ?_ | with_reducible refine Below.drewN ?_ _ | with_reducible refine Below.alloc ?_ ?_ _ | with_reducible refine Below.setCell ?_ ?_ _ | with_reducible refine Below.setRow ?_ ?_ _ | with_reducible refine below_step (by assumption) ?_ ?_ | (show (_ : Nat) ≤ _; first | omega | (simp <;> omega)))⟩
    case round =>
      obtain ⟨rfl, hb⟩ := hrel
      go_wp2
      go_ret
      exact ⟨rfl, by repeat' (first | with_reducible exact Below.refl _ _ | with_reducible assumption | with_reducible refine Below.drew ?_ | with_reducible refine Below.drewN ?_ _ | with_reducible refine Below.alloc ?_ ?_ _ | with_reducible refine Below.setCell ?_ ?_ _ | with_reducible refine Below.setRow ?_ ?_ _ | with_reducible refine below_step (by assumption) ?_ ?_ | (show (_ : Nat) ≤ _; first | omega | (simp <;> omega)))⟩
  · obtain ⟨g1, c1, rfl, -, hg1, -, -, ht1⟩ := h1.pos hp
    obtain ⟨g2, c2, rfl, -, hg2, -, -, ht2⟩ := h2.pos hp
    have HX := Lib.hid (fun j (hj : j < n) => And.intro (ht1 j (by omega)) (ht2 j (by omega)))
    clear h1 h2 ht1 ht2
    go_enter Tryz.func32, Tryz.ntmps32
    go_wp2
    go_loopw [5] (fun i wr => ∃ k : Nat, k ≤ n ∧ i = .int .i64 k ∧ Below w.heap.size w wr) (fun i wr => n - (intOf i).toNat)
    case atStart => exact ⟨0, by omega, rfl, by repeat' (first | with_reducible exact Below.refl _ _ | with_reducible assumption | with_reducible refine Below.drew ?_ | with_reducible refine Below.drewN ?_ _ | with_reducible refine Below.alloc ?_ ?_ _ | with_reducible refine Below.setCell ?_ ?_ _ | with_reducible refine Below.setRow ?_ ?_ _ | with_reducible refine below_step (by assumption) ?_ ?_ | (show (_ : Nat) ≤ _; first | omega | (simp <;> omega)))⟩
    case round =>
      obtain ⟨k, hk, rfl, hb⟩ := hrel
      have hr1 := keep_row hb hg1
      have hr2 := keep_row hb hg2
      have hw1 : g1 < wr.heap.size := Nat.lt_of_lt_of_le hg1 hb.size
      have hw2 : g2 < wr.heap.size := Nat.lt_of_lt_of_le hg2 hb.size
      by_cases hlt : k < n
      · obtain ⟨e1, e2⟩ := HX.out k hlt
        rw [← hr1] at e1
        rw [← hr2] at e2
        clear hr1 hr2
        go_wp2
        go_region
        go_wp2
        go_roundw
        case rel => first | exact ⟨k + 1, by omega, by go_num, by repeat' (first | with_reducible exact Below.refl _ _ | with_reducible assumption | with_reducible refine Below.drew ?_ | with_reducible refine Below.drewN ?_ _ | with_reducible refine Below.alloc ?_ ?_ _ | with_reducible refine Below.setCell ?_ ?_ _ | with_reducible refine Below.setRow ?_ ?_ _ | with_reducible refine below_step (by assumption) ?_ ?_ | (show (_ : Nat) ≤ _; first | omega | (simp <;> omega)))⟩ | ((repeat (with_reducible apply Exists.intro)); refine And.intro ?_ ?_; rotate_left; (focus ((repeat' (with_reducible apply And.intro)) <;> rfl)); exact ⟨k + 1, by omega, by go_num, by repeat' (first | with_reducible exact Below.refl _ _ | with_reducible assumption | with_reducible refine Below.drew ?_ | with_reducible refine Below.drewN ?_ _ | with_reducible refine Below.alloc ?_ ?_ _ | with_reducible refine Below.setCell ?_ ?_ _ | with_reducible refine Below.setRow ?_ ?_ _ | with_reducible refine below_step (by assumption) ?_ ?_ | (show (_ : Nat) ≤ _; first | omega | (simp <;> omega)))⟩)
        case measure => simp [intOf]; omega
      · clear hr1 hr2
        go_wp2
        go_ret
        exact ⟨rfl, by repeat' (first | with_reducible exact Below.refl _ _ | with_reducible assumption | with_reducible refine Below.drew ?_ | with_reducible refine Below.drewN ?_ _ | with_reducible refine Below.alloc ?_ ?_ _ | with_reducible refine Below.setCell ?_ ?_ _ | with_reducible refine Below.setRow ?_ ?_ _ | with_reducible refine below_step (by assumption) ?_ ?_ | (show (_ : Nat) ≤ _; first | omega | (simp <;> omega)))⟩
set_option maxHeartbeats 1000000 in
theorem markInt64S_own (v : Value) (n b : Nat) (f : Nat → Int) (k0 : Int) (hk0 : 0 ≤ k0 ∧ k0 ≤ 1099511627776) (hn : n < 1099511627776) (w : World) (hbw : b ≤ w.heap.size) (h : OwnK .i64 1 w b v n f) :
    Calls Tryz.prog 34 #[v, .int .i64 k0] w fun e w' => e = .returned (.int .i64 (k0 + (n : Int))) ∧ Below b w w' ∧ OwnK .i64 1 w' b v n (fun j => k0 + (j : Int)) := by
  rcases Nat.eq_zero_or_pos n with hz | hp
  · subst hz
    obtain ⟨a1, c1, rfl⟩ := h.len
    have HH := Lib.hid h
    clear h
    go_enter Tryz.func34, Tryz.ntmps34
    go_wp2
    go_loopw [5, 1] (fun i s wr => i = .int .i64 (0 : Nat) ∧ s = .int .i64 k0 ∧ Below w.heap.size w wr) (fun i s wr => 0)
    case atStart => exact ⟨rfl, rfl, by repeat' (first | with_reducible exact Below.refl _ _ | with_reducible assumption | with_reducible refine Below.drew ?_ | with_reducible refine Below.drewN ?_ _ | with_reducible refine Below.alloc ?_ ?_ _ | with_reducible refine Below.setCell ?_ ?_ _ | with_reducible refine Below.setRow ?_ ?_ _ | with_reducible refine below_step (by assumption) ?_ ?_ | (show (_ : Nat) ≤ _; first | omega | (simp <;> omega)))⟩
    case round =>
      obtain ⟨rfl, rfl, hb⟩ := hrel
      go_wp2
      go_ret
      exact ⟨by simp, below_le (by repeat' (first | with_reducible exact Below.refl _ _ | with_reducible assumption | with_reducible refine Below.drew ?_ | with_reducible refine Below.drewN ?_ _ | with_reducible refine Below.alloc ?_ ?_ _ | with_reducible refine Below.setCell ?_ ?_ _ | with_reducible refine Below.setRow ?_ ?_ _ | with_reducible refine below_step (by assumption) ?_ ?_ | (show (_ : Nat) ≤ _; first | omega | (simp <;> omega)))) hbw, (HH.out.below (by repeat' (first | with_reducible exact Below.refl _ _ | with_reducible assumption | with_reducible refine Below.drew ?_ | with_reducible refine Below.drewN ?_ _ | with_reducible refine Below.alloc ?_ ?_ _ | with_reducible refine Below.setCell ?_ ?_ _ | with_reducible refine Below.setRow ?_ ?_ _ | with_reducible refine below_step (by assumption) ?_ ?_ | (show (_ : Nat) ≤ _; first | omega | (simp <;> omega)))) (Nat.le_refl _)).congr (fun j hj => absurd hj (by omega))⟩
  · obtain ⟨g, cap, rfl, hbg, hg, hfr, hsz, -⟩ := h.pos hp
    clear h
    go_enter Tryz.func34, Tryz.ntmps34
    go_wp2
    go_loopw [5, 1] (fun i s wr => ∃ (k : Nat) (d : Array Value), k ≤ n ∧ i = .int .i64 k ∧ s = .int .i64 (k0 + (k : Int)) ∧ Below g w wr ∧ frOf wr g = (0, 0) ∧ rowOf wr g = d ∧ n ≤ d.size ∧ ∀ j, j < k → d[j]? = some (.int .i64 (k0 + (j : Int)))) (fun i s wr => n - (intOf i).toNat)
    case atStart => exact ⟨0, rowOf w g, by omega, rfl, by simp, by repeat' (first | with_reducible exact Below.refl _ _ | with_reducible assumption | with_reducible refine Below.drew ?_ | with_reducible refine Below.drewN ?_ _ | with_reducible refine Below.alloc ?_ ?_ _ | with_reducible refine Below.setCell ?_ ?_ _ | with_reducible refine Below.setRow ?_ ?_ _ | with_reducible refine below_step (by assumption) ?_ ?_ | (show (_ : Nat) ≤ _; first | omega | (simp <;> omega))), by (go_simp <;> (intros; omega)), by (go_simp <;> (intros; omega)), by omega, fun j hj => absurd hj (by omega)⟩
    case round =>
      obtain ⟨k, d, hk, rfl, rfl, hb, hfr1, hrd, hds, hd⟩ := hrel
      have HD := Lib.hid hd
      clear hd
      have hw1 : g < wr.heap.size := Nat.lt_of_lt_of_le hg hb.size
      by_cases hlt : k < n
      · obtain ⟨u0, hdk⟩ : ∃ u0, d[k]? = some u0 := ⟨_, Array.getElem?_eq_getElem (by omega)⟩
        go_wp2
        go_roundw
        case rel => first | exact ⟨k + 1, d.setIfInBounds k (.int .i64 (k0 + (k : Int))), by omega, by go_num, by go_num, by repeat' (first | with_reducible exact Below.refl _ _ | with_reducible assumption | with_reducible refine Below.drew ?_ | with_reducible refine Below.drewN ?_ _ | with_reducible refine Below.alloc ?_ ?_ _ | with_reducible refine Below.setCell ?_ ?_ _ | with_reducible refine Below.setRow ?_ ?_ _ | with_reducible refine below_step (by assumption) ?_ ?_ | (show (_ : Nat) ≤ _; first | omega | (simp <;> omega))), by (go_simp <;> (intros; omega)), by (go_simp <;> (intros; omega)), by simp; omega, fun j hj => by rw [Array.getElem?_setIfInBounds]; split; (next e => subst e; rw [if_pos (by omega)]); (next e => exact HD.out j (by omega))⟩ | ((repeat (with_reducible apply Exists.intro)); refine And.intro ?_ ?_; rotate_left; (focus ((repeat' (with_reducible apply And.intro)) <;> rfl)); exact ⟨k + 1, d.setIfInBounds k (.int .i64 (k0 + (k : Int))), by omega, by go_num, by go_num, by repeat' (first | with_reducible exact Below.refl _ _ | with_reducible assumption | with_reducible refine Below.drew ?_ | with_reducible refine Below.drewN ?_ _ | with_reducible refine Below.alloc ?_ ?_ _ | with_reducible refine Below.setCell ?_ ?_ _ | with_reducible refine Below.setRow ?_ ?_ _ | with_reducible refine below_step (by assumption) ?_ ?_ | (show (_ : Nat) ≤ _; first | omega | (simp <;> omega))), by (go_simp <;> (intros; omega)), by (go_simp <;> (intros; omega)), by simp; omega, fun j hj => by rw [Array.getElem?_setIfInBounds]; split; (next e => subst e; rw [if_pos (by omega)]); (next e => exact HD.out j (by omega))⟩)
        case measure => simp [intOf]; omega
      · have hke : k = n := by omega
        subst hke
        go_wp2
        go_ret
        exact ⟨rfl, below_le (by repeat' (first | with_reducible exact Below.refl _ _ | with_reducible assumption | with_reducible refine Below.drew ?_ | with_reducible refine Below.drewN ?_ _ | with_reducible refine Below.alloc ?_ ?_ _ | with_reducible refine Below.setCell ?_ ?_ _ | with_reducible refine Below.setRow ?_ ?_ _ | with_reducible refine below_step (by assumption) ?_ ?_ | (show (_ : Nat) ≤ _; first | omega | (simp <;> omega)))) hbg, .inr ⟨g, cap, rfl, hbg, (by first | omega | (simp <;> omega)), by (go_simp <;> (intros; omega)), by go_simp <;> omega, fun j hj => by go_simp; exact HD.out j (by omega)⟩⟩
end Go.Proofs.YtejnejplofddnaaGreatDoor
/- How an argument that is a slice of elements made of integers of one kind reads. No program. -/
namespace Go.Proofs.YtejnejplofddnaaGreatDoor
open Go.RowKit Go.ChangeShapes Go.WideShapes Go.ChangeAt Go.Deep
set_option linter.unusedVariables false
set_option linter.unusedSimpArgs false
set_option maxRecDepth 100000
theorem choose_nums {n : Nat} {k : IntKind} {p : Nat → Value → Prop} (h : ∀ j, j < n → ∃ z : Int, p j (.int k z) ∧ (Lit.int k z).wf = true) : ∃ f : Nat → Int, ∀ j, j < n → p j (.int k (f j)) ∧ (Lit.int k (f j)).wf = true := by
  classical
  refine ⟨fun j => if hj : j < n then Classical.choose (h j hj) else 0, fun j hj => ?_⟩
  simp only [dif_pos hj]
  exact Classical.choose_spec (h j hj)
theorem open_slA {H : Type} {enc : TypeId × Value → H} {P : Program} {w : World} {base b0 : Nat} {spare : Nat → Bool} {held : Bool} {r : Reach} {t e : TypeId} {k : IntKind} {s : Nat} {v : Value} {d : DataW H} {p : List MemPlace}
    (ht : P.underlying t = some (.slice e)) (hf : isFlat P e s (fun _ => k) = true) (hs : 0 < s) (hv : Value.okWide P w r b0 t v) (h : DataW.Trod enc P w base spare held t v d p) :
    ∃ (n : Nat) (f : Nat → Int), SlA k s w v n f ∧ n ≤ 9223372036854775807 ∧ ∀ j, j < n * s → (Lit.int k (f j)).wf = true := by
  unfold isFlat at hf
  simp only [Bool.and_eq_true, beq_iff_eq, decide_eq_true_eq] at hf
  obtain ⟨a0, len0, cap0, rfl⟩ := okWide_slice ht hv
  obtain ⟨fuel, hx⟩ := h
  rcases open_slice ht hx with ⟨h0, -⟩ | ⟨a, len, cap, m, n, D, Pl, h0, hb, hl, hm, hmm, -, hel⟩
  · simp only [Value.cells] at h0
    simp at h0
    obtain ⟨rfl, rfl, rfl⟩ := h0
    exact ⟨0, fun _ => 0, .inl ⟨rfl, rfl⟩, by omega, fun j hj => by omega⟩
  · simp only [Value.cells] at h0
    simp at h0
    obtain ⟨rfl, rfl, rfl⟩ := h0
    have hlm : len0 ≤ m := by rw [hmm]; split <;> omega
    have each : ∀ j, j < len0 * s → ∃ z : Int, w.cell? (a.add j) = some (.int k z) ∧ (Lit.int k z).wf = true := by
      intro j hj
      have hjs : j / s < len0 := (Nat.div_lt_iff_lt_mul hs).2 hj
      have hjr : j % s < s := Nat.mod_lt _ hs
      obtain ⟨cs', h1, h2⟩ := hel (j / s) (by omega)
      have hk := flat_reads 8 e _ hf.1 (by simp [hf.2]) h2
      obtain ⟨z, hz, hw⟩ := hk.2 (j % s) k (by simp [hjr])
      obtain ⟨_, _, hcell⟩ := World.cells?_some h1
      have := hcell (j % s) (by rw [hf.2]; exact hjr)
      rw [hz, add_add, hf.2, Nat.mul_comm, Nat.div_add_mod] at this
      exact ⟨z, this, hw⟩
    obtain ⟨f, hfn⟩ := choose_nums (p := fun j u => w.cell? (a.add j) = some u) each
    refine ⟨len0, f, .inr ⟨a, cap0, rfl, fun hn => ?_⟩, by unfold maxLen at hm; omega, fun j hj => (hfn j hj).2⟩
    have h00 := (hfn 0 (Nat.mul_pos hn hs)).1
    have hspot : a.spot = none := by
      have : a.add 0 = a := by unfold Addr.add; simp
      rw [this] at h00
      unfold World.cell? at h00
      split at h00
      · split at h00
        · cases h00
        · rename_i hsp; simpa using hsp
      · cases h00
    obtain ⟨g, o, sp⟩ := a
    simp only at hspot
    subst hspot
    have hadd : ∀ j, (⟨g, o, none⟩ : Addr).add j = ⟨g, o + j, none⟩ := fun j => by unfold Addr.add; split <;> simp_all
    refine ⟨g, o, rfl, ?_, fun j hj => ?_⟩
    · have := h00
      rw [hadd, Nat.add_zero] at this
      exact World.block_lt_of_cell? w ⟨g, o, none⟩ this
    · have := (hfn j hj).1
      rw [hadd, cell_row] at this
      exact this
end Go.Proofs.YtejnejplofddnaaGreatDoor
/- A row in which a sheet lies somewhere. Plain lemmas; no program. -/
namespace Go.Proofs.YtejnejplofddnaaGreatDoor
open Go.RowKit
set_option linter.unusedSimpArgs false
set_option linter.unusedVariables false
/-- A row that holds a sheet from a place on. -/
def kx (R : Array Value) (o : Nat) (c : Nat → Int) : Array Value := mk (max R.size (o + 266)) fun j => if o ≤ j ∧ j < o + 266 then .int (sk (j - o)) (c (j - o)) else R.getD j undef
def kxX (R : Array Value) (o : Nat) (c : Nat → Int) (j : Nat) : Option Value := (kx R o c)[j]?
@[go_sem] theorem kx_size (R : Array Value) (o : Nat) (c : Nat → Int) : (kx R o c).size = max R.size (o + 266) := mk_size _ _
@[go_sem ↓] theorem kx_getA (R : Array Value) (o : Nat) (c : Nat → Int) (j : Nat) : (kx R o c)[j]? = selLe o j (selLt (j - o) 266 (some (.int (sk (j - o)) (c (j - o)))) (kxX R o c j)) (kxX R o c j) := by
  unfold selLe selLt
  split
  · split
    · unfold kx
      rw [mk_get _ _ _ (by omega), if_pos (by omega)]
    · rfl
  · rfl
theorem kx_self {R : Array Value} {o : Nat} {c : Nat → Int} (hs : o + 266 ≤ R.size) (hc : ∀ j, j < 266 → R[o + j]? = some (.int (sk j) (c j))) : R = kx R o c := by
  unfold kx
  refine mk_of_size _ _ (by omega) (fun j hj => ?_)
  split
  · have := hc (j - o) (by omega)
    rwa [show o + (j - o) = j by omega] at this
  · rw [Array.getD_eq_getD_getElem?, Array.getElem?_eq_getElem (by omega)]; rfl
@[go_sem] theorem kx_off0 (o : Nat) : o - o = 0 := Nat.sub_self o
@[go_sem] theorem kx_off1 (o a : Nat) : o + a - o = a := by omega
@[go_sem] theorem kx_off2 (o a b : Nat) : o + a + b - o = a + b := by omega
@[go_sem] theorem kx_off3 (o a b d : Nat) : o + a + b + d - o = a + b + d := by omega
@[go_sem] theorem kx_off4 (o a b d e : Nat) : o + a + b + d + e - o = a + b + d + e := by omega
end Go.Proofs.YtejnejplofddnaaGreatDoor
/- Slices of elements that are rows of cells: owned and read, and how such an argument reads. No program. -/
namespace Go.Proofs.YtejnejplofddnaaGreatDoor
open Go.RowKit Go.ChangeShapes Go.WideShapes Go.ChangeAt Go.Deep
set_option linter.unusedVariables false
set_option linter.unusedSimpArgs false
set_option maxRecDepth 100000
/-- A slice of n elements of s cells each: the cells are V's; if it isn't nil its block may be written and lies at base or behind. -/
def OwnV (s : Nat) (w : World) (base : Nat) (v : Value) (n : Nat) (V : Nat → Nat → Value) : Prop :=
  (v = .slice none 0 0 ∧ n = 0) ∨ ∃ g cap, v = .slice (some ⟨g, 0, none⟩) n cap ∧ base ≤ g ∧ g < w.heap.size ∧ frOf w g = (0, 0) ∧ n * s ≤ (rowOf w g).size ∧ ∀ k, k < n → ∀ j, j < s → (rowOf w g)[k * s + j]? = some (V k j)
/-- A slice that is only read: it may lie anywhere in a block. -/
def SlV (s : Nat) (w : World) (v : Value) (n : Nat) (V : Nat → Nat → Value) : Prop :=
  (v = .slice none 0 0 ∧ n = 0) ∨ ∃ a cap, v = .slice (some a) n cap ∧ (0 < n → ∃ g o, a = ⟨g, o, none⟩ ∧ g < w.heap.size ∧ o + n * s ≤ (rowOf w g).size ∧ ∀ k, k < n → ∀ j, j < s → (rowOf w g)[o + k * s + j]? = some (V k j))
section
variable {s : Nat} {w w' : World} {base : Nat} {v : Value} {n : Nat} {V V' : Nat → Nat → Value}
theorem OwnV.len (h : OwnV s w base v n V) : ∃ a cap, v = .slice a n cap := by
  rcases h with ⟨rfl, rfl⟩ | ⟨g, cap, rfl, _⟩ <;> exact ⟨_, _, rfl⟩
theorem OwnV.pos (h : OwnV s w base v n V) (hn : 0 < n) : ∃ g cap, v = .slice (some ⟨g, 0, none⟩) n cap ∧ base ≤ g ∧ g < w.heap.size ∧ frOf w g = (0, 0) ∧ n * s ≤ (rowOf w g).size ∧ ∀ k, k < n → ∀ j, j < s → (rowOf w g)[k * s + j]? = some (V k j) := by
  rcases h with ⟨rfl, rfl⟩ | h
  · omega
  · exact h
theorem OwnV.lt (h : OwnV s w base v n V) : ∀ g cap, v = .slice (some ⟨g, 0, none⟩) n cap → g < w.heap.size := by
  intro g cap hv
  rcases h with ⟨rfl, rfl⟩ | ⟨g', cap', rfl, h1, h2, -⟩
  · cases hv
  · cases hv; exact h2
theorem OwnV.belowLt (h : OwnV s w base v n V) {B : Nat} (hb : Below B w w') (hB : ∀ g cap, v = .slice (some ⟨g, 0, none⟩) n cap → g < B) : OwnV s w' base v n V := by
  rcases h with h | ⟨g, cap, rfl, h1, h2, h3, h4, h5⟩
  · exact .inl h
  · have hgB := hB g cap rfl
    have hr := keep_row hb hgB
    exact .inr ⟨g, cap, rfl, h1, Nat.lt_of_lt_of_le h2 hb.size, (keep_fr hb hgB).trans h3, by rw [hr]; exact h4, fun k hk j hj => by rw [hr]; exact h5 k hk j hj⟩
theorem OwnV.below (h : OwnV s w base v n V) {B : Nat} (hb : Below B w w') (hB : w.heap.size ≤ B) : OwnV s w' base v n V :=
  h.belowLt hb (fun g cap hv => Nat.lt_of_lt_of_le (h.lt g cap hv) hB)
theorem OwnV.congr (h : OwnV s w base v n V) (hf : ∀ k, k < n → ∀ j, j < s → V k j = V' k j) : OwnV s w base v n V' := by
  rcases h with h | ⟨g, cap, rfl, h1, h2, h3, h4, h5⟩
  · exact .inl h
  · exact .inr ⟨g, cap, rfl, h1, h2, h3, h4, fun k hk j hj => by rw [← hf k hk j hj]; exact h5 k hk j hj⟩
theorem OwnV.down {b' : Nat} (h : OwnV s w base v n V) (hb : b' ≤ base) : OwnV s w b' v n V := by
  rcases h with h | ⟨g, cap, rfl, h1, h2⟩
  · exact .inl h
  · exact .inr ⟨g, cap, rfl, Nat.le_trans hb h1, h2⟩
theorem OwnV.slV (h : OwnV s w base v n V) : SlV s w v n V := by
  rcases h with h | ⟨g, cap, rfl, h1, h2, h3, h4, h5⟩
  · exact .inl h
  · exact .inr ⟨_, cap, rfl, fun _ => ⟨g, 0, rfl, h2, by omega, fun k hk j hj => by rw [Nat.zero_add]; exact h5 k hk j hj⟩⟩
theorem OwnV.of {e : TypeId} {xs : List Value} (h : w.ownsRow base e s v n xs) (hx : ∀ k, k < n → ∀ j, j < s → xs[k * s + j]? = some (V k j)) : OwnV s w base v n V := by
  obtain ⟨hl, ⟨rfl, rfl⟩ | ⟨g, cap, cur, rfl, hb, hg, h1, h2, h3, ht⟩⟩ := h
  · exact .inl ⟨rfl, rfl⟩
  · have hrow : rowOf w g = cur := by simp [rowOf, hg, objRow]
    refine .inr ⟨g, cap, rfl, hb, (Array.getElem?_eq_some_iff.1 hg).1, by simp [frOf, hg, objFr], by rw [hrow, h3]; exact Nat.mul_le_mul_right _ h1, fun k hk j hj => ?_⟩
    have e := hx k hk j hj
    have hlt : k * s + j < n * s := by
      have := Nat.mul_le_mul_right s (show k + 1 ≤ n by omega)
      rw [Nat.succ_mul] at this; omega
    rw [hrow, ← Array.getElem?_toList]
    rw [← ht, List.getElem?_take, if_pos hlt] at e
    exact e
theorem SlV.len (h : SlV s w v n V) : ∃ a cap, v = .slice a n cap := by
  rcases h with ⟨rfl, rfl⟩ | ⟨g, cap, rfl, _⟩ <;> exact ⟨_, _, rfl⟩
theorem SlV.pos (h : SlV s w v n V) (hn : 0 < n) : ∃ g o cap, v = .slice (some ⟨g, o, none⟩) n cap ∧ g < w.heap.size ∧ o + n * s ≤ (rowOf w g).size ∧ ∀ k, k < n → ∀ j, j < s → (rowOf w g)[o + k * s + j]? = some (V k j) := by
  rcases h with ⟨rfl, rfl⟩ | ⟨a, cap, rfl, h⟩
  · omega
  · obtain ⟨g, o, rfl, h2⟩ := h hn
    exact ⟨g, o, cap, rfl, h2⟩
theorem SlV.below (h : SlV s w v n V) {B : Nat} (hb : Below B w w') (hB : w.heap.size ≤ B) : SlV s w' v n V := by
  rcases h with h | ⟨a, cap, rfl, h⟩
  · exact .inl h
  · refine .inr ⟨a, cap, rfl, fun hn => ?_⟩
    obtain ⟨g, o, rfl, h2, h4, h5⟩ := h hn
    have hr := keep_row hb (show g < B by omega)
    exact ⟨g, o, rfl, Nat.lt_of_lt_of_le h2 hb.size, by rw [hr]; exact h4, fun k hk j hj => by rw [hr]; exact h5 k hk j hj⟩
end
theorem apart_ofV {s s' : Nat} {w w' : World} {b b' : Nat} {v v' : Value} {n n' : Nat} {V V' : Nat → Nat → Value} (h : OwnV s w b v n V) (h' : OwnV s' w' b' v' n' V') (hle : w.heap.size ≤ b') : Apart v v' := by
  intro g cap m g' cap' m' e1 e2
  rcases h with ⟨rfl, rfl⟩ | ⟨g1, c1, rfl, h1, h2, -⟩
  · cases e1
  rcases h' with ⟨rfl, rfl⟩ | ⟨g2, c2, rfl, h3, -⟩
  · cases e2
  cases e1
  cases e2
  omega
theorem OwnV.apart {s : Nat} {w w' : World} {b : Nat} {v v' : Value} {n n' cap' g' : Nat} {V : Nat → Nat → Value} (h : OwnV s w b v n V) (hv : v' = .slice (some ⟨g', 0, none⟩) n' cap') (ha : Apart v' v) (hsz : w.heap.size ≤ w'.heap.size) (hk : ∀ q, q ≠ g' → q < w.heap.size → rowOf w' q = rowOf w q ∧ frOf w' q = frOf w q) : OwnV s w' b v n V := by
  rcases h with h | ⟨g, cap, rfl, h1, h2, h3, h4, h5⟩
  · exact .inl h
  · have hne : g' ≠ g := ha g' cap' n' g cap n hv rfl
    obtain ⟨e1, e2⟩ := hk g (fun e => hne e.symm) h2
    exact .inr ⟨g, cap, rfl, h1, by omega, e2.trans h3, by rw [e1]; exact h4, fun k hk j hj => by rw [e1]; exact h5 k hk j hj⟩
/-- An element as a part of its row. -/
theorem ext_mk {R : Array Value} {o s : Nat} {V : Nat → Value} (hs : o + s ≤ R.size) (h : ∀ j, j < s → R[o + j]? = some (V j)) : rowExt R o s = mk s V := by
  refine mk_of_size _ _ (by simp [rowExt]; omega) (fun j hj => ?_)
  unfold rowExt
  rw [Array.getElem?_extract, if_pos (by omega)]
  exact h j hj
/-- The cells of sheets. -/
def shV (F : Nat → Nat → Int) (k j : Nat) : Value := .int (sk j) (F k j)
theorem ext_sheet {R : Array Value} {o : Nat} {F : Nat → Nat → Int} {k : Nat} (hs : o + 266 ≤ R.size) (h : ∀ j, j < 266 → R[o + j]? = some (shV F k j)) : rowExt R o 266 = kc sk 266 (F k) := ext_mk hs h
/-- Cells laid over a row, read again. -/
theorem splice_get (cs vs : Array Value) (o j : Nat) (h : o + vs.size ≤ cs.size) : (splice cs o vs)[j]? = if o ≤ j ∧ j < o + vs.size then vs[j - o]? else cs[j]? := by
  unfold splice
  by_cases hj : j < cs.size
  · rw [mk_get _ _ _ hj]
    split
    · rw [Array.getD_eq_getD_getElem?, Array.getElem?_eq_getElem (by omega)]; rfl
    · rw [Array.getElem?_eq_getElem hj]; simp [Array.getD, hj]
  · rw [if_neg (by omega), Array.getElem?_eq_none (by rw [mk_size]; omega), Array.getElem?_eq_none (by omega)]
theorem splice_size (cs vs : Array Value) (o : Nat) : (splice cs o vs).size = cs.size := mk_size _ _
theorem open_slV {H : Type} {enc : TypeId × Value → H} {P : Program} {w : World} {base b0 : Nat} {spare : Nat → Bool} {held : Bool} {r : Reach} {t e : TypeId} {ks : Nat → IntKind} {s : Nat} {v : Value} {d : DataW H} {p : List MemPlace}
    (ht : P.underlying t = some (.slice e)) (hf : isFlat P e s ks = true) (hs : 0 < s) (hv : Value.okWide P w r b0 t v) (h : DataW.Trod enc P w base spare held t v d p) :
    ∃ (n : Nat) (F : Nat → Nat → Int), SlV s w v n (fun k j => .int (ks j) (F k j)) ∧ n ≤ 9223372036854775807 ∧ ∀ k, k < n → FitRow ks s (F k) := by
  unfold isFlat at hf
  simp only [Bool.and_eq_true, beq_iff_eq, decide_eq_true_eq] at hf
  obtain ⟨a0, len0, cap0, rfl⟩ := okWide_slice ht hv
  obtain ⟨fuel, hx⟩ := h
  rcases open_slice ht hx with ⟨h0, -⟩ | ⟨a, len, cap, m, n, D, Pl, h0, hb, hl, hm, hmm, -, hel⟩
  · simp only [Value.cells] at h0
    simp at h0
    obtain ⟨rfl, rfl, rfl⟩ := h0
    exact ⟨0, fun _ _ => 0, .inl ⟨rfl, rfl⟩, by omega, fun j hj => by omega⟩
  · simp only [Value.cells] at h0
    simp at h0
    obtain ⟨rfl, rfl, rfl⟩ := h0
    have hlm : len0 ≤ m := by rw [hmm]; split <;> omega
    have each : ∀ j, j < len0 * s → ∃ z : Int, w.cell? (a.add j) = some (.int (ks (j % s)) z) ∧ (Lit.int (ks (j % s)) z).wf = true := by
      intro j hj
      have hjs : j / s < len0 := (Nat.div_lt_iff_lt_mul hs).2 hj
      have hjr : j % s < s := Nat.mod_lt _ hs
      obtain ⟨cs', h1, h2⟩ := hel (j / s) (by omega)
      have hk := flat_reads 8 e _ hf.1 (by simp [hf.2]) h2
      obtain ⟨z, hz, hw⟩ := hk.2 (j % s) (ks (j % s)) (by simp [hjr])
      obtain ⟨_, _, hcell⟩ := World.cells?_some h1
      have := hcell (j % s) (by rw [hf.2]; exact hjr)
      rw [hz, add_add, hf.2, Nat.mul_comm, Nat.div_add_mod] at this
      exact ⟨z, this, hw⟩
    obtain ⟨f, hfn⟩ : ∃ f : Nat → Int, ∀ j, j < len0 * s → w.cell? (a.add j) = some (.int (ks (j % s)) (f j)) ∧ (Lit.int (ks (j % s)) (f j)).wf = true := by
      classical
      refine ⟨fun j => if hj : j < len0 * s then Classical.choose (each j hj) else 0, fun j hj => ?_⟩
      simp only [dif_pos hj]
      exact Classical.choose_spec (each j hj)
    have hlt : ∀ k, k < len0 → ∀ j, j < s → k * s + j < len0 * s := fun k hk j hj => by
      have := Nat.mul_le_mul_right s (show k + 1 ≤ len0 by omega)
      rw [Nat.succ_mul] at this; omega
    have hmod : ∀ k j, j < s → (k * s + j) % s = j := fun k j hj => by rw [Nat.add_comm, Nat.add_mul_mod_self_right]; exact Nat.mod_eq_of_lt hj
    refine ⟨len0, fun k j => f (k * s + j), .inr ⟨a, cap0, rfl, fun hn => ?_⟩, by unfold maxLen at hm; omega, fun k hk j hj => by have := (hfn (k * s + j) (hlt k hk j hj)).2; rwa [hmod k j hj] at this⟩
    have h00 := (hfn 0 (Nat.mul_pos hn hs)).1
    have hspot : a.spot = none := by
      have : a.add 0 = a := by unfold Addr.add; simp
      rw [this] at h00
      unfold World.cell? at h00
      split at h00
      · split at h00
        · cases h00
        · rename_i hsp; simpa using hsp
      · cases h00
    obtain ⟨g, o, sp⟩ := a
    simp only at hspot
    subst hspot
    have hadd : ∀ j, (⟨g, o, none⟩ : Addr).add j = ⟨g, o + j, none⟩ := fun j => by unfold Addr.add; split <;> simp_all
    have hc : ∀ j, j < len0 * s → (rowOf w g)[o + j]? = some (.int (ks (j % s)) (f j)) := fun j hj => by
      have := (hfn j hj).1
      rw [hadd, cell_row] at this
      exact this
    refine ⟨g, o, rfl, ?_, ?_, fun k hk j hj => ?_⟩
    · have := h00
      rw [hadd, Nat.add_zero] at this
      exact World.block_lt_of_cell? w ⟨g, o, none⟩ this
    · have hp : 0 < len0 * s := Nat.mul_pos hn hs
      have := (Array.getElem?_eq_some_iff.1 (hc (len0 * s - 1) (by omega))).1
      omega
    · have := hc (k * s + j) (hlt k hk j hj)
      rwa [hmod k j hj, ← Nat.add_assoc] at this
end Go.Proofs.YtejnejplofddnaaGreatDoor
/- Slices of spots: the statements' own comparing, marking and looking up. -/
namespace Go.Proofs.YtejnejplofddnaaGreatDoor
open Go.RowKit
set_option linter.unusedVariables false
set_option linter.unusedSimpArgs false
set_option maxRecDepth 100000
/-- The marks' numbers. -/
def mS (k0 : Int) (j : Nat) : Int := IntKind.i8.wrap (k0 + (j : Int))
theorem eqSpot_same (x y : Int) (w : World) : Calls Tryz.prog 148 #[.agg #[.int .i8 x, .int .i8 y], .agg #[.int .i8 x, .int .i8 y]] w fun e w' => e = .returned (.bool true) ∧ Below w.heap.size w w' := by
  go_enter Tryz.func148, Tryz.ntmps148
  go_wp2
  go_ret
  exact ⟨rfl, by repeat' (first | with_reducible exact Below.refl _ _ | with_reducible assumption | with_reducible refine Below.drew ?_ | with_reducible refine Below.drewN ?_ _ | with_reducible refine Below.alloc ?_ ?_ _ | with_reducible refine Below.setCell ?_ ?_ _ | with_reducible refine Below.setRow ?_ ?_ _ | with_reducible refine below_step (by assumption) ?_ ?_ | (show (_ : Nat) ≤ _; first | omega | (simp <;> omega)))⟩
set_option maxHeartbeats 1000000 in
theorem eqSpotS_own (v1 v2 : Value) (n b1 b2 : Nat) (f : Nat → Int) (hn : n < 1099511627776) (w : World) (h1 : OwnK .i8 2 w b1 v1 n f) (h2 : OwnK .i8 2 w b2 v2 n f) :
    Calls Tryz.prog 120 #[v1, v2] w fun e w' => e = .returned (.bool true) ∧ Below w.heap.size w w' := by
  rcases Nat.eq_zero_or_pos n with hz | hp
  · subst hz
    obtain ⟨a1, c1, rfl⟩ := h1.len
    obtain ⟨a2, c2, rfl⟩ := h2.len
    clear h1 h2
    go_enter Tryz.func120, Tryz.ntmps120
    go_wp2
    go_loopw [5] (fun i wr => i = .int .i64 (0 : Nat) ∧ Below w.heap.size w wr) (fun i wr => 0)
    case atStart => exact ⟨rfl, by repeat' (first | with_reducible exact Below.refl _ _ | with_reducible assumption | with_reducible refine Below.drew ?_ | with_reducible refine Below.drewN ?_ _ | with_reducible refine Below.alloc ?_ ?_ _ | with_reducible refine Below.setCell ?_ ?_ _ | with_reducible refine Below.setRow ?_ ?_ _ | with_reducible refine below_step (by assumption) ?_ ?_ | (show (_ : Nat) ≤ _; first | omega | (simp <;> omega)))⟩
    case round =>
      obtain ⟨rfl, hb⟩ := hrel
      go_wp2
      go_ret
      exact ⟨rfl, by repeat' (first | with_reducible exact Below.refl _ _ | with_reducible assumption | with_reducible refine Below.drew ?_ | with_reducible refine Below.drewN ?_ _ | with_reducible refine Below.alloc ?_ ?_ _ | with_reducible refine Below.setCell ?_ ?_ _ | with_reducible refine Below.setRow ?_ ?_ _ | with_reducible refine below_step (by assumption) ?_ ?_ | (show (_ : Nat) ≤ _; first | omega | (simp <;> omega)))⟩
  · obtain ⟨g1, c1, rfl, -, hg1, -, -, ht1⟩ := h1.pos hp
    obtain ⟨g2, c2, rfl, -, hg2, -, -, ht2⟩ := h2.pos hp
    have HX := Lib.hid (fun j (hj : j < n) => And.intro (And.intro (ht1 (j * 2) (by omega)) (ht1 (j * 2 + 1) (by omega))) (And.intro (ht2 (j * 2) (by omega)) (ht2 (j * 2 + 1) (by omega))))
    clear h1 h2 ht1 ht2
    go_enter Tryz.func120, Tryz.ntmps120
    go_wp2
    go_loopw [5] (fun i wr => ∃ k : Nat, k ≤ n ∧ i = .int .i64 k ∧ Below w.heap.size w wr) (fun i wr => n - (intOf i).toNat)
    case atStart => exact ⟨0, by omega, rfl, by repeat' (first | with_reducible exact Below.refl _ _ | with_reducible assumption | with_reducible refine Below.drew ?_ | with_reducible refine Below.drewN ?_ _ | with_reducible refine Below.alloc ?_ ?_ _ | with_reducible refine Below.setCell ?_ ?_ _ | with_reducible refine Below.setRow ?_ ?_ _ | with_reducible refine below_step (by assumption) ?_ ?_ | (show (_ : Nat) ≤ _; first | omega | (simp <;> omega)))⟩
    case round =>
      obtain ⟨k, hk, rfl, hb⟩ := hrel
      have hr1 := keep_row hb hg1
      have hr2 := keep_row hb hg2
      have hw1 : g1 < wr.heap.size := Nat.lt_of_lt_of_le hg1 hb.size
      have hw2 : g2 < wr.heap.size := Nat.lt_of_lt_of_le hg2 hb.size
      have hsz := hb.size
      by_cases hlt : k < n
      · obtain ⟨⟨e1, e2⟩, e3, e4⟩ := HX.out k hlt
        rw [← hr1] at e1 e2
        rw [← hr2] at e3 e4
        clear hr1 hr2
        go_wp2
        go_still_tail 8, (by kernel_rfl)
        change wpList _ _ _ _ _ (World.drew _)
        go_wp2_with ((go_at_call 148; refine (eqSpot_same _ _ _).mono ?_; rintro e w1 ⟨rfl, hb1⟩; have r1 := keep_rowA hb1; have f1 := keep_frA hb1; have s1 := hb1.size; (try simp only [World.size_alloc, World.size_setCell, setRow_size, World.size_drew, size_drewNm] at r1 f1 s1)))
        go_roundw
        case rel => first | exact ⟨k + 1, by omega, by go_num, by repeat' (first | with_reducible exact Below.refl _ _ | with_reducible assumption | with_reducible refine Below.drew ?_ | with_reducible refine Below.drewN ?_ _ | with_reducible refine Below.alloc ?_ ?_ _ | with_reducible refine Below.setCell ?_ ?_ _ | with_reducible refine Below.setRow ?_ ?_ _ | with_reducible refine below_step (by assumption) ?_ ?_ | (show (_ : Nat) ≤ _; first | omega | (simp <;> omega)))⟩ | ((repeat (with_reducible apply Exists.intro)); refine And.intro ?_ ?_; rotate_left; (focus ((repeat' (with_reducible apply And.intro)) <;> rfl)); exact ⟨k + 1, by omega, by go_num, by repeat' (first | with_reducible exact Below.refl _ _ | with_reducible assumption | with_reducible refine Below.drew ?_ | with_reducible refine Below.drewN ?_ _ | with_reducible refine Below.alloc ?_ ?_ _ | with_reducible refine Below.setCell ?_ ?_ _ | with_reducible refine Below.setRow ?_ ?_ _ | with_reducible refine below_step (by assumption) ?_ ?_ | (show (_ : Nat) ≤ _; first | omega | (simp <;> omega)))⟩)
        case measure => simp [intOf]; omega
      · clear hr1 hr2
        go_wp2
        go_ret
        exact ⟨rfl, by repeat' (first | with_reducible exact Below.refl _ _ | with_reducible assumption | with_reducible refine Below.drew ?_ | with_reducible refine Below.drewN ?_ _ | with_reducible refine Below.alloc ?_ ?_ _ | with_reducible refine Below.setCell ?_ ?_ _ | with_reducible refine Below.setRow ?_ ?_ _ | with_reducible refine below_step (by assumption) ?_ ?_ | (show (_ : Nat) ≤ _; first | omega | (simp <;> omega)))⟩
set_option maxHeartbeats 2000000 in
theorem markSpotS_own (v : Value) (n b : Nat) (f : Nat → Int) (k0 : Int) (hk0 : 0 ≤ k0 ∧ k0 ≤ 1099511627776) (hn : n < 1099511627776) (w : World) (hbw : b ≤ w.heap.size) (h : OwnK .i8 2 w b v n f) :
    Calls Tryz.prog 81 #[v, .int .i64 k0] w fun e w' => e = .returned (.int .i64 (k0 + ((n * 2 : Nat) : Int))) ∧ Below b w w' ∧ OwnK .i8 2 w' b v n (mS k0) ∧ ∀ k s b2 v2 n2 f2, OwnK k s w b2 v2 n2 f2 → Apart v v2 → OwnK k s w' b2 v2 n2 f2 := by
  rcases Nat.eq_zero_or_pos n with hz | hp
  · subst hz
    obtain ⟨a1, c1, rfl⟩ := h.len
    have HH := Lib.hid h
    clear h
    go_enter Tryz.func81, Tryz.ntmps81
    go_wp2
    go_loopw [5, 1] (fun i s wr => i = .int .i64 (0 : Nat) ∧ s = .int .i64 k0 ∧ Below w.heap.size w wr) (fun i s wr => 0)
    case atStart => exact ⟨rfl, rfl, by repeat' (first | with_reducible exact Below.refl _ _ | with_reducible assumption | with_reducible refine Below.drew ?_ | with_reducible refine Below.drewN ?_ _ | with_reducible refine Below.alloc ?_ ?_ _ | with_reducible refine Below.setCell ?_ ?_ _ | with_reducible refine Below.setRow ?_ ?_ _ | with_reducible refine below_step (by assumption) ?_ ?_ | (show (_ : Nat) ≤ _; first | omega | (simp <;> omega)))⟩
    case round =>
      obtain ⟨rfl, rfl, hb⟩ := hrel
      go_wp2
      go_ret
      exact ⟨by simp, below_le (by repeat' (first | with_reducible exact Below.refl _ _ | with_reducible assumption | with_reducible refine Below.drew ?_ | with_reducible refine Below.drewN ?_ _ | with_reducible refine Below.alloc ?_ ?_ _ | with_reducible refine Below.setCell ?_ ?_ _ | with_reducible refine Below.setRow ?_ ?_ _ | with_reducible refine below_step (by assumption) ?_ ?_ | (show (_ : Nat) ≤ _; first | omega | (simp <;> omega)))) hbw, (HH.out.below (by repeat' (first | with_reducible exact Below.refl _ _ | with_reducible assumption | with_reducible refine Below.drew ?_ | with_reducible refine Below.drewN ?_ _ | with_reducible refine Below.alloc ?_ ?_ _ | with_reducible refine Below.setCell ?_ ?_ _ | with_reducible refine Below.setRow ?_ ?_ _ | with_reducible refine below_step (by assumption) ?_ ?_ | (show (_ : Nat) ≤ _; first | omega | (simp <;> omega)))) (Nat.le_refl _)).congr (fun j hj => absurd hj (by omega)), fun k s b2 v2 n2 f2 h _ => h.below (by repeat' (first | with_reducible exact Below.refl _ _ | with_reducible assumption | with_reducible refine Below.drew ?_ | with_reducible refine Below.drewN ?_ _ | with_reducible refine Below.alloc ?_ ?_ _ | with_reducible refine Below.setCell ?_ ?_ _ | with_reducible refine Below.setRow ?_ ?_ _ | with_reducible refine below_step (by assumption) ?_ ?_ | (show (_ : Nat) ≤ _; first | omega | (simp <;> omega)))) (Nat.le_refl _)⟩
  · obtain ⟨g, cap, rfl, hbg, hg, hfr, hsz, -⟩ := h.pos hp
    clear h
    go_enter Tryz.func81, Tryz.ntmps81
    go_wp2
    go_loopw [5, 1] (fun i s wr => ∃ (k : Nat) (d : Array Value), k ≤ n ∧ i = .int .i64 k ∧ s = .int .i64 (k0 + ((k * 2 : Nat) : Int)) ∧ Below g w wr ∧ frOf wr g = (0, 0) ∧ rowOf wr g = d ∧ n * 2 ≤ d.size ∧ (∀ q, q ≠ g → q < w.heap.size → rowOf wr q = rowOf w q ∧ frOf wr q = frOf w q) ∧ ∀ j, j < k * 2 → d[j]? = some (.int .i8 (mS k0 j))) (fun i s wr => n - (intOf i).toNat)
    case atStart => exact ⟨0, rowOf w g, by omega, rfl, by simp, by repeat' (first | with_reducible exact Below.refl _ _ | with_reducible assumption | with_reducible refine Below.drew ?_ | with_reducible refine Below.drewN ?_ _ | with_reducible refine Below.alloc ?_ ?_ _ | with_reducible refine Below.setCell ?_ ?_ _ | with_reducible refine Below.setRow ?_ ?_ _ | with_reducible refine below_step (by assumption) ?_ ?_ | (show (_ : Nat) ≤ _; first | omega | (simp <;> omega))), by (go_simp <;> (intros; omega)), by (go_simp <;> (intros; omega)), by omega, fun q _ _ => ⟨rfl, rfl⟩, fun j hj => absurd hj (by omega)⟩
    case round =>
      obtain ⟨k, d, hk, rfl, rfl, hb, hfr1, hrd, hds, hq, hd⟩ := hrel
      have HD := Lib.hid hd
      have HQ := Lib.hid hq
      clear hd hq
      have hszw := hb.size
      have hw1 : g < wr.heap.size := Nat.lt_of_lt_of_le hg hb.size
      by_cases hlt : k < n
      · obtain ⟨u0, hdk⟩ : ∃ u0, d[k * 2]? = some u0 := ⟨_, Array.getElem?_eq_getElem (by omega)⟩
        obtain ⟨u1, hdk1⟩ : ∃ u1, d[k * 2 + 1]? = some u1 := ⟨_, Array.getElem?_eq_getElem (by omega)⟩
        go_wp2
        go_roundw
        case rel => first | exact ⟨k + 1, (d.setIfInBounds (k * 2) (.int .i8 (IntKind.i8.wrap (k0 + (k : Int) * 2)))).setIfInBounds (k * 2 + 1) (.int .i8 (IntKind.i8.wrap (k0 + (k : Int) * 2 + 1))), by omega, by go_num, by go_num, by repeat' (first | with_reducible exact Below.refl _ _ | with_reducible assumption | with_reducible refine Below.drew ?_ | with_reducible refine Below.drewN ?_ _ | with_reducible refine Below.alloc ?_ ?_ _ | with_reducible refine Below.setCell ?_ ?_ _ | with_reducible refine Below.setRow ?_ ?_ _ | with_reducible refine below_step (by assumption) ?_ ?_ | (show (_ : Nat) ≤ _; first | omega | (simp <;> omega))), by (go_simp <;> (intros; omega)), by (go_simp <;> (intros; omega)), by simp; omega, fun q hq1 hq2 => ⟨by go_simp <;> first | exact (HQ.out q hq1 hq2).1 | omega, by go_simp <;> first | exact (HQ.out q hq1 hq2).2 | omega⟩, fun j hj => by rw [Array.getElem?_setIfInBounds, Array.getElem?_setIfInBounds]; split; (next e => subst e; rw [if_pos (by simp; omega)]; unfold mS; congr 3; omega); (next e => split; (next e2 => subst e2; rw [if_pos (by omega)]; unfold mS; congr 3); (next e2 => exact HD.out j (by omega)))⟩ | ((repeat (with_reducible apply Exists.intro)); refine And.intro ?_ ?_; rotate_left; (focus ((repeat' (with_reducible apply And.intro)) <;> rfl)); exact ⟨k + 1, (d.setIfInBounds (k * 2) (.int .i8 (IntKind.i8.wrap (k0 + (k : Int) * 2)))).setIfInBounds (k * 2 + 1) (.int .i8 (IntKind.i8.wrap (k0 + (k : Int) * 2 + 1))), by omega, by go_num, by go_num, by repeat' (first | with_reducible exact Below.refl _ _ | with_reducible assumption | with_reducible refine Below.drew ?_ | with_reducible refine Below.drewN ?_ _ | with_reducible refine Below.alloc ?_ ?_ _ | with_reducible refine Below.setCell ?_ ?_ _ | with_reducible refine Below.setRow ?_ ?_ _ | with_reducible refine below_step (by assumption) ?_ ?_ | (show (_ : Nat) ≤ _; first | omega | (simp <;> omega))), by (go_simp <;> (intros; omega)), by (go_simp <;> (intros; omega)), by simp; omega, fun q hq1 hq2 => ⟨by go_simp <;> first | exact (HQ.out q hq1 hq2).1 | omega, by go_simp <;> first | exact (HQ.out q hq1 hq2).2 | omega⟩, fun j hj => by rw [Array.getElem?_setIfInBounds, Array.getElem?_setIfInBounds]; split; (next e => subst e; rw [if_pos (by simp; omega)]; unfold mS; congr 3; omega); (next e => split; (next e2 => subst e2; rw [if_pos (by omega)]; unfold mS; congr 3); (next e2 => exact HD.out j (by omega)))⟩)
        case measure => simp [intOf]; omega
      · have hke : k = n := by omega
        subst hke
        go_wp2
        go_ret
        exact ⟨rfl, below_le (by repeat' (first | with_reducible exact Below.refl _ _ | with_reducible assumption | with_reducible refine Below.drew ?_ | with_reducible refine Below.drewN ?_ _ | with_reducible refine Below.alloc ?_ ?_ _ | with_reducible refine Below.setCell ?_ ?_ _ | with_reducible refine Below.setRow ?_ ?_ _ | with_reducible refine below_step (by assumption) ?_ ?_ | (show (_ : Nat) ≤ _; first | omega | (simp <;> omega)))) hbg, .inr ⟨g, cap, rfl, hbg, (by first | omega | (simp <;> omega)), by (go_simp <;> (intros; omega)), by go_simp <;> omega, fun j hj => by go_simp; exact HD.out j (by omega)⟩, fun k s b2 v2 n2 f2 h ha => h.apart rfl ha hszw HQ.out⟩
end Go.Proofs.YtejnejplofddnaaGreatDoor
/- Slices of spots: copied by the statements, cloned and turned round by the library. -/
namespace Go.Proofs.YtejnejplofddnaaGreatDoor
open Go.RowKit
set_option linter.unusedVariables false
set_option linter.unusedSimpArgs false
set_option maxRecDepth 100000
theorem spot_made : ∃ Z : Nat → Array Value, ∀ n, (Z n).size = n * 2 ∧ (n ≤ 1048576 → ∀ w : World, (Instr.makeSlice 49 (.int .i64 (n : Int)) (.int .i64 (n : Int))).run Tryz.prog w = .ok (.slice (some ⟨w.heap.size, 0, none⟩) n n) (w.alloc (.cells (Z n) 59))) := by
  obtain ⟨i0, z0, hi0, hz0, hs0, hb0, hc0⟩ := spot_info
  refine ⟨fun n => madeCells z0.cells (n * 2), fun n => ⟨size_madeCells _ _, fun hn w => ?_⟩⟩
  have := run_make (P := Tryz.prog) w 49 59 i0 z0 Tryz.underlying49 hi0 hz0 .i64 .i64 n n (by omega) (by omega) (by rw [hb0]; omega) (by omega)
  rw [hs0] at this
  simpa using this
set_option maxHeartbeats 2000000 in
theorem toSpotS_full (v : Value) (n : Nat) (f : Nat → Int) (hn : n ≤ 1048576) (w : World) (h : SlA .i8 2 w v n f) :
    Calls Tryz.prog 119 #[v] w fun e w' => ∃ g, e = .returned (.slice (some ⟨g, 0, none⟩) n n) ∧ OwnK .i8 2 w' w.heap.size (.slice (some ⟨g, 0, none⟩) n n) n f ∧ Below w.heap.size w w' := by
  obtain ⟨Z, hZ⟩ := spot_made
  have hzs := (hZ n).1
  have hmk := (hZ n).2 hn
  clear hZ
  generalize Z n = z at hzs hmk
  obtain ⟨a, cap, rfl⟩ := h.len
  have HH := Lib.hid h
  clear h
  go_enter Tryz.func119, Tryz.ntmps119
  go_wp2
  go_loopw [4] (fun i wr => ∃ (k : Nat) (d : Array Value), k ≤ n ∧ i = .int .i64 k ∧ Below w.heap.size w wr ∧ w.heap.size + 1 ≤ wr.heap.size ∧ frOf wr w.heap.size = (0, 0) ∧ rowOf wr w.heap.size = d ∧ d.size = n * 2 ∧ ∀ j, j < k * 2 → d[j]? = some (.int .i8 (f j))) (fun i wr => n - (intOf i).toNat)
  case atStart => exact ⟨0, z, by omega, rfl, by repeat' (first | with_reducible exact Below.refl _ _ | with_reducible assumption | with_reducible refine Below.drew ?_ | with_reducible refine Below.drewN ?_ _ | with_reducible refine Below.alloc ?_ ?_ _ | with_reducible refine Below.setCell ?_ ?_ _ | with_reducible refine Below.setRow ?_ ?_ _ | with_reducible refine below_step (by assumption) ?_ ?_ | (show (_ : Nat) ≤ _; first | omega | (simp <;> omega))), by simp, by (go_simp <;> (intros; omega)), by (go_simp <;> (intros; omega)), hzs, fun j hj => absurd hj (by omega)⟩
  case round =>
    obtain ⟨k, d, hk, rfl, hb, hsz, hfr, hrd, hds, hd⟩ := hrel
    have HD := Lib.hid hd
    clear hd
    by_cases hlt : k < n
    · obtain ⟨g, o, cap', hv, hg, hcells⟩ := HH.out.pos (by omega)
      simp only [Value.slice.injEq] at hv
      obtain ⟨rfl, -, rfl⟩ := hv
      have hr1 := keep_row hb hg
      have hw1 : g < wr.heap.size := Nat.lt_of_lt_of_le hg hb.size
      have e1 := hcells (k * 2) (by omega)
      have e2 := hcells (k * 2 + 1) (by omega)
      rw [← hr1] at e1 e2
      rw [← Nat.add_assoc] at e2
      clear hcells hr1
      obtain ⟨u0, hdk⟩ : ∃ u0, d[k * 2]? = some u0 := ⟨_, Array.getElem?_eq_getElem (by omega)⟩
      obtain ⟨u1, hdk1⟩ : ∃ u1, d[k * 2 + 1]? = some u1 := ⟨_, Array.getElem?_eq_getElem (by omega)⟩
      generalize hx : f (k * 2) = x at e1
      generalize hy : f (k * 2 + 1) = y at e2
      have HX := Lib.hid (And.intro hx hy)
      clear hx hy
      go_wp2_with ((go_at_call 147; refine (toSpot_any _ _ _).mono ?_; rintro e w1 ⟨rfl, hb1⟩; have r1 := keep_rowA hb1; have f1 := keep_frA hb1; have s1 := hb1.size; (try simp only [World.size_alloc, World.size_setCell, setRow_size, World.size_drew, size_drewNm] at r1 f1 s1)))
      go_roundw
      case rel => first | exact ⟨k + 1, (d.setIfInBounds (k * 2) (.int .i8 x)).setIfInBounds (k * 2 + 1) (.int .i8 y), by omega, by go_num, by repeat' (first | with_reducible exact Below.refl _ _ | with_reducible assumption | with_reducible refine Below.drew ?_ | with_reducible refine Below.drewN ?_ _ | with_reducible refine Below.alloc ?_ ?_ _ | with_reducible refine Below.setCell ?_ ?_ _ | with_reducible refine Below.setRow ?_ ?_ _ | with_reducible refine below_step (by assumption) ?_ ?_ | (show (_ : Nat) ≤ _; first | omega | (simp <;> omega))), (by first | omega | (simp <;> omega)), by (go_simp <;> (intros; omega)), by (go_simp <;> (intros; omega)), by simp [hds], fun j hj => by rw [Array.getElem?_setIfInBounds, Array.getElem?_setIfInBounds]; split; (next e => subst e; rw [if_pos (by simp; omega), HX.out.2]); (next e => split; (next e2 => subst e2; rw [if_pos (by omega), HX.out.1]); (next e2 => exact HD.out j (by omega)))⟩ | ((repeat (with_reducible apply Exists.intro)); refine And.intro ?_ ?_; rotate_left; (focus ((repeat' (with_reducible apply And.intro)) <;> rfl)); exact ⟨k + 1, (d.setIfInBounds (k * 2) (.int .i8 x)).setIfInBounds (k * 2 + 1) (.int .i8 y), by omega, by go_num, by repeat' (first | with_reducible exact Below.refl _ _ | with_reducible assumption | with_reducible refine Below.drew ?_ | with_reducible refine Below.drewN ?_ _ | with_reducible refine Below.alloc ?_ ?_ _ | with_reducible refine Below.setCell ?_ ?_ _ | with_reducible refine Below.setRow ?_ ?_ _ | with_reducible refine below_step (by assumption) ?_ ?_ | (show (_ : Nat) ≤ _; first | omega | (simp <;> omega))), (by first | omega | (simp <;> omega)), by (go_simp <;> (intros; omega)), by (go_simp <;> (intros; omega)), by simp [hds], fun j hj => by rw [Array.getElem?_setIfInBounds, Array.getElem?_setIfInBounds]; split; (next e => subst e; rw [if_pos (by simp; omega), HX.out.2]); (next e => split; (next e2 => subst e2; rw [if_pos (by omega), HX.out.1]); (next e2 => exact HD.out j (by omega)))⟩)
      case measure => simp [intOf]; omega
    · have hke : k = n := by omega
      subst hke
      go_wp2
      go_ret
      exact ⟨_, rfl, .inr ⟨_, _, rfl, Nat.le_refl _, by omega, hfr, by rw [hrd]; omega, fun j hj => by rw [hrd]; exact HD.out j hj⟩, by repeat' (first | with_reducible exact Below.refl _ _ | with_reducible assumption | with_reducible refine Below.drew ?_ | with_reducible refine Below.drewN ?_ _ | with_reducible refine Below.alloc ?_ ?_ _ | with_reducible refine Below.setCell ?_ ?_ _ | with_reducible refine Below.setRow ?_ ?_ _ | with_reducible refine below_step (by assumption) ?_ ?_ | (show (_ : Nat) ≤ _; first | omega | (simp <;> omega)))⟩
theorem toSpotS_any (v : Value) (n : Nat) (f : Nat → Int) (hn : n ≤ 1048576) (w : World) (h : SlA .i8 2 w v n f) :
    Calls Tryz.prog 119 #[v] w fun e w' => ∃ v', e = .returned v' ∧ OwnK .i8 2 w' w.heap.size v' n f ∧ Below w.heap.size w w' :=
  (toSpotS_full v n f hn w h).mono fun _ _ ⟨g, h1, h2, h3⟩ => ⟨_, h1, h2, h3⟩
theorem szSpotS_any (v : Value) (n : Nat) (f : Nat → Int) (hn : n ≤ 9223372036854775807) (w : World) (h : SlA .i8 2 w v n f) :
    Calls Tryz.prog 116 #[v, .int .i64 1048576] w fun e w' => e = .returned (.int .i64 (if 1048576 < (n : Int) then -1 else 1048576 - (n : Int))) ∧ Below w.heap.size w w' := by
  obtain ⟨a, cap, rfl⟩ := h.len
  clear h
  by_cases hlt : 1048576 < (n : Int)
  · rw [if_pos hlt]
    go_enter Tryz.func116, Tryz.ntmps116
    go_wp2
    go_ret
    exact ⟨rfl, by repeat' (first | with_reducible exact Below.refl _ _ | with_reducible assumption | with_reducible refine Below.drew ?_ | with_reducible refine Below.drewN ?_ _ | with_reducible refine Below.alloc ?_ ?_ _ | with_reducible refine Below.setCell ?_ ?_ _ | with_reducible refine Below.setRow ?_ ?_ _ | with_reducible refine below_step (by assumption) ?_ ?_ | (show (_ : Nat) ≤ _; first | omega | (simp <;> omega)))⟩
  · rw [if_neg hlt]
    go_enter Tryz.func116, Tryz.ntmps116
    go_wp2
    go_ret
    exact ⟨rfl, by repeat' (first | with_reducible exact Below.refl _ _ | with_reducible assumption | with_reducible refine Below.drew ?_ | with_reducible refine Below.drewN ?_ _ | with_reducible refine Below.alloc ?_ ?_ _ | with_reducible refine Below.setCell ?_ ?_ _ | with_reducible refine Below.setRow ?_ ?_ _ | with_reducible refine below_step (by assumption) ?_ ?_ | (show (_ : Nat) ≤ _; first | omega | (simp <;> omega)))⟩
set_option maxHeartbeats 1000000 in
theorem clone_spots (v : Value) (n b : Nat) (f : Nat → Int) (hn : n ≤ 1048576) (w : World) (h : OwnK .i8 2 w b v n f) :
    Calls Tryz.prog 105 #[v] w fun e w' => ∃ v', e = .returned v' ∧ OwnK .i8 2 w' w.heap.size v' n f ∧ Below w.heap.size w w' := by
  obtain ⟨i0, z0, hi0, hz0, hs0, hb0, hc0⟩ := spot_info
  have heq := fun a m c w => Lib.run_eql_slice_nil (P := Tryz.prog) w 49 59 a m c 0 0 Tryz.underlying49
  rcases h with ⟨rfl, rfl⟩ | ⟨g, cap, rfl, hbg, hg, hfr, hsz, hcells⟩
  · go_enter Tryz.func105, Tryz.ntmps105
    go_wp2
    go_ret
    exact ⟨_, rfl, .inl ⟨rfl, rfl⟩, by repeat' (first | with_reducible exact Below.refl _ _ | with_reducible assumption | with_reducible refine Below.drew ?_ | with_reducible refine Below.drewN ?_ _ | with_reducible refine Below.alloc ?_ ?_ _ | with_reducible refine Below.setCell ?_ ?_ _ | with_reducible refine Below.setRow ?_ ?_ _ | with_reducible refine below_step (by assumption) ?_ ?_ | (show (_ : Nat) ≤ _; first | omega | (simp <;> omega)))⟩
  · have HC := Lib.hid hcells
    clear hcells
    go_enter Tryz.func105, Tryz.ntmps105
    go_wp2_with (at_builtin; refine wpList_append_own _ rfl _ _ 49 rfl w.heap.size 59 i0 z0 2 2 Tryz.underlying49 hi0 hz0 hs0 hb0 hc0 (by decide) _ _ _ rfl (owns_empty w _) ⟨g, 0, none⟩ n cap ((List.range (n * 2)).map fun j => .int .i8 (f j)) rfl (by simp) ?c1 ?c2 ?c3 ?c4 ?c5 ?_)
    case c1 =>
      intro j u hj
      have hjn : j < n * 2 := by
        have := (List.getElem?_eq_some_iff.1 hj).1
        simpa using this
      rw [List.getElem?_map, List.getElem?_range hjn] at hj
      simp only [Option.map_some, Option.some.injEq] at hj
      subst hj
      have e := HC.out j hjn
      have : ((⟨g, 0, none⟩ : Addr).add j) = ⟨g, j, none⟩ := by unfold Addr.add; split <;> simp_all
      rw [this, cell_row]
      go_simp
    case c2 => intro u hu; simp at hu; obtain ⟨j, -, rfl⟩ := hu; rfl
    case c3 => unfold maxLen; omega
    case c4 => omega
    case c5 => simp
    intro v' w1 hown' hgrow _
    have hbg : Below w.heap.size w w1 := below_grown (Below.alloc (Below.refl _ _) (Nat.le_refl _) _) hgrow (fun k hk => by simp [Value.ownBlock] at hk; omega) (by simp)
    have HB := Lib.hid hbg
    have HW := Lib.hid (OwnK.of (f := f) hown' (fun j hj => by rw [List.getElem?_map, List.getElem?_range hj]; rfl))
    clear hbg hown' hgrow
    go_wp2
    go_ret
    exact ⟨_, rfl, HW.out, HB.out⟩
/-- The numbers of a row of pairs turned round. -/
def rv (n : Nat) (f : Nat → Int) (j : Nat) : Int := f ((n - 1 - j / 2) * 2 + j % 2)
/-- One exchange more. -/
theorem swapped {n k m : Nat} {f : Nat → Int} {d : Array Value} {x1 y1 x2 y2 : Int} (hd : ∀ t e, t < n → e < 2 → d[t * 2 + e]? = some (.int .i8 (if t < k ∨ n < t + 1 + k then f ((n - 1 - t) * 2 + e) else f (t * 2 + e))))
    (hx1 : f (k * 2) = x1) (hy1 : f (k * 2 + 1) = y1) (hx2 : f (m * 2) = x2) (hy2 : f (m * 2 + 1) = y2) (hds : n * 2 ≤ d.size) (hkm : k < m) (hm : k + 1 + m = n) :
    ∀ t e, t < n → e < 2 → ((((d.setIfInBounds (k * 2) (.int .i8 x2)).setIfInBounds (k * 2 + 1) (.int .i8 y2)).setIfInBounds (m * 2) (.int .i8 x1)).setIfInBounds (m * 2 + 1) (.int .i8 y1))[t * 2 + e]? = some (.int .i8 (if t < k + 1 ∨ n < t + 1 + (k + 1) then f ((n - 1 - t) * 2 + e) else f (t * 2 + e))) := by
  intro t e ht he
  have h0 := hd t e ht he
  simp only [Array.getElem?_setIfInBounds, Array.size_setIfInBounds]
  by_cases q1 : m * 2 + 1 = t * 2 + e
  · obtain rfl : t = m := by omega
    obtain rfl : e = 1 := by omega
    rw [if_pos rfl, if_pos (by omega), if_pos (by omega), show n - 1 - t = k by omega, hy1]
  rw [if_neg q1]
  by_cases q2 : m * 2 = t * 2 + e
  · obtain rfl : t = m := by omega
    obtain rfl : e = 0 := by omega
    rw [if_pos (by omega), if_pos (by omega), if_pos (by omega), show n - 1 - t = k by omega, Nat.add_zero, hx1]
  rw [if_neg q2]
  by_cases q3 : k * 2 + 1 = t * 2 + e
  · obtain rfl : t = k := by omega
    obtain rfl : e = 1 := by omega
    rw [if_pos rfl, if_pos (by omega), if_pos (by omega), show n - 1 - t = m by omega, hy2]
  rw [if_neg q3]
  by_cases q4 : k * 2 = t * 2 + e
  · obtain rfl : t = k := by omega
    obtain rfl : e = 0 := by omega
    rw [if_pos (by omega), if_pos (by omega), if_pos (by omega), show n - 1 - t = m by omega, Nat.add_zero, hx2]
  rw [if_neg q4, h0]
  by_cases q5 : t < k ∨ n < t + 1 + k
  · rw [if_pos q5, if_pos (by omega)]
  · rw [if_neg q5, if_neg (by omega)]
/-- The first k pairs from behind. -/
def revL (f : Nat → Int) (n : Nat) : Nat → List Value
  | 0 => []
  | k + 1 => revL f n k ++ [.int .i8 (f ((n - 1 - k) * 2)), .int .i8 (f ((n - 1 - k) * 2 + 1))]
theorem revL_len (f : Nat → Int) (n k : Nat) : (revL f n k).length = k * 2 := by
  induction k with
  | zero => rfl
  | succ k ih => show (revL f n k ++ _).length = _; rw [List.length_append, ih, Nat.succ_mul]; rfl
theorem revL_get (f : Nat → Int) (n k j : Nat) (h : j < k * 2) : (revL f n k)[j]? = some (.int .i8 (rv n f j)) := by
  induction k with
  | zero => omega
  | succ k ih =>
    show (revL f n k ++ _)[j]? = _
    by_cases hj : j < k * 2
    · rw [List.getElem?_append_left (by rw [revL_len]; exact hj)]; exact ih hj
    · rw [List.getElem?_append_right (by rw [revL_len]; omega), revL_len]
      unfold rv
      by_cases q : j = k * 2
      · subst q
        rw [Nat.sub_self, show k * 2 / 2 = k by omega, show k * 2 % 2 = 0 by omega]; rfl
      · have q : j = k * 2 + 1 := by omega
        subst q
        rw [show k * 2 + 1 - k * 2 = 1 by omega, show (k * 2 + 1) / 2 = k by omega, show (k * 2 + 1) % 2 = 1 by omega]; rfl
end Go.Proofs.YtejnejplofddnaaGreatDoor
/- A mark as the statements hand it over; copied, sized and compared by the statements. -/
namespace Go.Proofs.YtejnejplofddnaaGreatDoor
open Go.RowKit Go.ChangeShapes Go.WideShapes Go.ChangeAt Go.Deep
set_option linter.unusedVariables false
set_option linter.unusedSimpArgs false
set_option maxRecDepth 100000
theorem open_slAt {H : Type} {enc : TypeId × Value → H} {P : Program} {w : World} {base : Nat} {spare : Nat → Bool} {held : Bool} {t e : TypeId} {k : IntKind} {s : Nat} {v : Value} {fuel : Nat} {x : DataW H × List MemPlace}
    (ht : P.underlying t = some (.slice e)) (hf : isFlat P e s (fun _ => k) = true) (hs : 0 < s) (hx : DataW.trod enc P w base spare held fuel t [v] = some x) :
    ∃ (n : Nat) (f : Nat → Int), SlA k s w v n f ∧ n ≤ 9223372036854775807 ∧ ∀ j, j < n * s → (Lit.int k (f j)).wf = true := by
  unfold isFlat at hf
  simp only [Bool.and_eq_true, beq_iff_eq, decide_eq_true_eq] at hf
  rcases open_slice ht hx with ⟨h0, -⟩ | ⟨a, len0, cap0, m, n, D, Pl, h0, hb, hl, hm, hmm, -, hel⟩
  · simp at h0
    subst h0
    exact ⟨0, fun _ => 0, .inl ⟨rfl, rfl⟩, by omega, fun j hj => by omega⟩
  · simp at h0
    subst h0
    have hlm : len0 ≤ m := by rw [hmm]; split <;> omega
    have each : ∀ j, j < len0 * s → ∃ z : Int, w.cell? (a.add j) = some (.int k z) ∧ (Lit.int k z).wf = true := by
      intro j hj
      have hjs : j / s < len0 := (Nat.div_lt_iff_lt_mul hs).2 hj
      have hjr : j % s < s := Nat.mod_lt _ hs
      obtain ⟨cs', h1, h2⟩ := hel (j / s) (by omega)
      have hk := flat_reads 8 e _ hf.1 (by simp [hf.2]) h2
      obtain ⟨z, hz, hw⟩ := hk.2 (j % s) k (by simp [hjr])
      obtain ⟨_, _, hcell⟩ := World.cells?_some h1
      have := hcell (j % s) (by rw [hf.2]; exact hjr)
      rw [hz, add_add, hf.2, Nat.mul_comm, Nat.div_add_mod] at this
      exact ⟨z, this, hw⟩
    obtain ⟨f, hfn⟩ := choose_nums (p := fun j u => w.cell? (a.add j) = some u) each
    refine ⟨len0, f, .inr ⟨a, cap0, rfl, fun hn => ?_⟩, by unfold maxLen at hm; omega, fun j hj => (hfn j hj).2⟩
    have h00 := (hfn 0 (Nat.mul_pos hn hs)).1
    have hspot : a.spot = none := by
      have : a.add 0 = a := by unfold Addr.add; simp
      rw [this] at h00
      unfold World.cell? at h00
      split at h00
      · split at h00
        · cases h00
        · rename_i hsp; simpa using hsp
      · cases h00
    obtain ⟨g, o, sp⟩ := a
    simp only at hspot
    subst hspot
    have hadd : ∀ j, (⟨g, o, none⟩ : Addr).add j = ⟨g, o + j, none⟩ := fun j => by unfold Addr.add; split <;> simp_all
    refine ⟨g, o, rfl, ?_, fun j hj => ?_⟩
    · have := h00
      rw [hadd, Nat.add_zero] at this
      exact World.block_lt_of_cell? w ⟨g, o, none⟩ this
    · have := (hfn j hj).1
      rw [hadd, cell_row] at this
      exact this
theorem open_mark {H : Type} {enc : TypeId × Value → H} {P : Program} {w W : World} {base b0 : Nat} {spare : Nat → Bool} {held : Bool} {r : Reach} {t e : TypeId} {v : Value} {d : DataW H} {p : List MemPlace} {f0 f1 : Field}
    (hu : P.underlying t = some (.struct #[f0, f1])) (u0 : P.underlying f0.type = some (.int .i8)) (u1 : P.underlying f1.type = some (.slice e)) (hf : isFlat P e 2 (fun _ => .i8) = true)
    (o0 : f0.offset = 0) (o1 : f1.offset = 1) (c0 : P.cellsOf f0.type = 1) (c1 : P.cellsOf f1.type = 1) (ct : P.cellsOf t = 2)
    (hv : Value.okWide P W r b0 t v) (h : DataW.Trod enc P w base spare held t v d p) : ∃ (col : Int) (c : Value) (n : Nat) (f : Nat → Int), v = .agg #[.int .i8 col, c] ∧ (-128 ≤ col ∧ col ≤ 127) ∧ SlA .i8 2 w c n f ∧ n ≤ 9223372036854775807 ∧ ∀ j, j < n * 2 → (Lit.int .i8 (f j)).wf = true := by
  unfold Value.okWide at hv
  rw [hu] at hv
  obtain ⟨cs, rfl, _⟩ := hv
  obtain ⟨fuel, hx⟩ := h
  obtain ⟨y0, y1, n, _, hl, e0, e1⟩ := trod_struct2 hu hx
  obtain ⟨a, ha, _, wa⟩ := DataW.trod_int u0 e0
  simp only [Value.cells, o0, o1, c0, c1, ct] at ha hl e1
  obtain ⟨l⟩ := cs
  match l, hl with
  | [x, y], _ =>
    simp at ha e1
    subst ha
    obtain ⟨n, f, hs, hn, hw⟩ := open_slAt u1 hf (by decide) e1
    exact ⟨a, y, n, f, rfl, bd_i8 wa, hs, hn, hw⟩
@[go_sem] theorem oneCell_intM (k : IntKind) (n : Int) : (Value.int k n).oneCell' = true := rfl
@[go_sem] theorem oneCell_slM (a : Option Addr) (n c : Nat) : (Value.slice a n c).oneCell' = true := rfl
theorem OwnK.other {k : IntKind} {s : Nat} {w w' : World} {b : Nat} {v : Value} {n : Nat} {f : Nat → Int} (h : OwnK k s w b v n f) (hs : w.heap.size ≤ w'.heap.size) (hr : ∀ g, b ≤ g → g < w.heap.size → rowOf w' g = rowOf w g ∧ frOf w' g = frOf w g) : OwnK k s w' b v n f := by
  rcases h with h | ⟨g, cap, rfl, h1, h2, h3, h4, h5⟩
  · exact .inl h
  · obtain ⟨q1, q2⟩ := hr g h1 h2
    exact .inr ⟨g, cap, rfl, h1, by omega, by rw [q2]; exact h3, by rw [q1]; exact h4, by rw [q1]; exact h5⟩
theorem size_imark : (Tryz.prog.info? 51).map (·.size) = some 2 := by kernel_rfl
theorem size_lmark : (Tryz.prog.info? 119).map (·.size) = some 2 := by kernel_rfl
@[go_sem ↓] theorem toLoad_imark (a : Addr) : loadVar 51 a = loadR 51 a := rfl
@[go_sem ↓] theorem toStore_imark (a : Addr) (v : Value) : storeVar 51 a v = storeR 51 a v := rfl
@[go_sem] theorem load_imark (w : World) (b o : Nat) : (loadR 51 ⟨b, o, none⟩).run Tryz.prog w = loaded Tryz.prog 51 2 w b o := run_load_rowA (P := Tryz.prog) 51 2 _ (by omega) Tryz.underlying51 rfl size_imark w b o
@[go_sem] theorem store_imark (w : World) (b o : Nat) (vs : Array Value) : (storeR 51 ⟨b, o, none⟩ (.agg vs)).run Tryz.prog w = storedRow Tryz.prog 51 2 w b o vs := run_store_rowA (P := Tryz.prog) 51 2 (by omega) size_imark w b o vs
@[go_sem ↓] theorem toLoad_lmark (a : Addr) : loadVar 119 a = loadR 119 a := rfl
@[go_sem] theorem load_lmark (w : World) (b o : Nat) : (loadR 119 ⟨b, o, none⟩).run Tryz.prog w = loaded Tryz.prog 119 2 w b o := run_load_rowA (P := Tryz.prog) 119 2 _ (by omega) Tryz.underlying119 rfl size_lmark w b o
@[go_sem ↓] theorem zero_imark (w : World) : (zeroValue 51).run Tryz.prog w = .ok (.agg #[.int .i8 0, .slice none 0 0]) w := by kernel_rfl
theorem toMark_any (col : Int) (v : Value) (n : Nat) (f : Nat → Int) (hn : n ≤ 1048576) (w : World) (h : SlA .i8 2 w v n f) :
    Calls Tryz.prog 79 #[.agg #[.int .i8 col, v]] w fun e w' => ∃ v', e = .returned (.agg #[.int .i8 col, v']) ∧ OwnK .i8 2 w' w.heap.size v' n f ∧ Below w.heap.size w w' := by
  have HH := Lib.hid h
  obtain ⟨a0, cap0, rfl⟩ := h.len
  clear h
  go_enter Tryz.func79, Tryz.ntmps79
  go_wp2_with (go_at_call 119; refine (toSpotS_any _ n f hn _ (HH.out.below (by repeat' (first | with_reducible exact Below.refl _ _ | with_reducible assumption | with_reducible refine Below.drew ?_ | with_reducible refine Below.drewN ?_ _ | with_reducible refine Below.alloc ?_ ?_ _ | with_reducible refine Below.setCell ?_ ?_ _ | with_reducible refine Below.setRow ?_ ?_ _ | with_reducible refine below_step (by assumption) ?_ ?_ | (show (_ : Nat) ≤ _; first | omega | (simp <;> omega)))) (Nat.le_refl _))).mono ?_; rintro e w1 ⟨v1, rfl, ho, hb1⟩; obtain ⟨a1, cap1, rfl⟩ := ho.len; have r_hb1 := keep_rowA hb1; have f_hb1 := keep_frA hb1; have s_hb1 := hb1.size; (try simp only [World.size_alloc, World.size_setCell, setRow_size, World.size_drew, size_drewNm] at r_hb1 f_hb1 s_hb1); have Hv1 := Lib.hid (ho.down (b' := w.heap.size + 3) (by first | omega | (simp <;> omega))); clear ho)
  refine bodyPost_ret (v := .agg #[.int .i8 col, .slice a1 n cap1]) (res_c rfl rfl (by (go_simp <;> (intros; omega)))) rfl ⟨_, rfl, (Hv1.out.other ?_ (fun g h1 h2 => ?_)).down (by omega), by repeat' (first | with_reducible exact Below.refl _ _ | with_reducible assumption | with_reducible refine Below.drew ?_ | with_reducible refine Below.drewN ?_ _ | with_reducible refine Below.alloc ?_ ?_ _ | with_reducible refine Below.setCell ?_ ?_ _ | with_reducible refine Below.setRow ?_ ?_ _ | with_reducible refine below_step (by assumption) ?_ ?_ | (show (_ : Nat) ≤ _; first | omega | (simp <;> omega)))⟩
  · skip
    simp only [World.size_alloc, World.size_setCell, setRow_size, World.size_drew, size_drewNm]; omega
  have e1 : g ≠ w.heap.size + 1 := by omega
  have e2 : g ≠ w.heap.size + 1 + 1 := by omega
  constructor <;> go_simp
theorem szMark_any (col : Int) (v : Value) (n : Nat) (f : Nat → Int) (hn : n ≤ 9223372036854775807) (w : World) (h : SlA .i8 2 w v n f) :
    Calls Tryz.prog 75 #[.agg #[.int .i8 col, v], .int .i64 1048576] w fun e w' => e = .returned (.int .i64 (if 1048576 < (n : Int) then -1 else 1048576 - (n : Int))) ∧ Below w.heap.size w w' := by
  have HH := Lib.hid h
  obtain ⟨a0, cap0, rfl⟩ := h.len
  clear h
  by_cases hbig : 1048576 < (n : Int)
  · have HZ := Lib.hid (fun w h => if_pos hbig ▸ szSpotS_any (.slice a0 n cap0) n f hn w h)
    rw [if_pos hbig]
    go_enter Tryz.func75, Tryz.ntmps75
    go_wp2_with ((go_at_call 116; refine (HZ.out _ (HH.out.below (by repeat' (first | with_reducible exact Below.refl _ _ | with_reducible assumption | with_reducible refine Below.drew ?_ | with_reducible refine Below.drewN ?_ _ | with_reducible refine Below.alloc ?_ ?_ _ | with_reducible refine Below.setCell ?_ ?_ _ | with_reducible refine Below.setRow ?_ ?_ _ | with_reducible refine below_step (by assumption) ?_ ?_ | (show (_ : Nat) ≤ _; first | omega | (simp <;> omega)))) (Nat.le_refl _))).mono ?_; rintro e w1 ⟨rfl, hb1⟩; have r1 := keep_rowA hb1; have f1 := keep_frA hb1; have s1 := hb1.size; (try simp only [World.size_alloc, World.size_setCell, setRow_size, World.size_drew, size_drewNm] at r1 f1 s1)))
    go_ret
    exact ⟨rfl, by repeat' (first | with_reducible exact Below.refl _ _ | with_reducible assumption | with_reducible refine Below.drew ?_ | with_reducible refine Below.drewN ?_ _ | with_reducible refine Below.alloc ?_ ?_ _ | with_reducible refine Below.setCell ?_ ?_ _ | with_reducible refine Below.setRow ?_ ?_ _ | with_reducible refine below_step (by assumption) ?_ ?_ | (show (_ : Nat) ≤ _; first | omega | (simp <;> omega)))⟩
  · have HZ := Lib.hid (fun w h => if_neg hbig ▸ szSpotS_any (.slice a0 n cap0) n f hn w h)
    rw [if_neg hbig]
    have hz : ¬ (1048576 - (n : Int) < 0) := by omega
    clear hbig
    go_enter Tryz.func75, Tryz.ntmps75
    go_wp2_with ((go_at_call 116; refine (HZ.out _ (HH.out.below (by repeat' (first | with_reducible exact Below.refl _ _ | with_reducible assumption | with_reducible refine Below.drew ?_ | with_reducible refine Below.drewN ?_ _ | with_reducible refine Below.alloc ?_ ?_ _ | with_reducible refine Below.setCell ?_ ?_ _ | with_reducible refine Below.setRow ?_ ?_ _ | with_reducible refine below_step (by assumption) ?_ ?_ | (show (_ : Nat) ≤ _; first | omega | (simp <;> omega)))) (Nat.le_refl _))).mono ?_; rintro e w1 ⟨rfl, hb1⟩; have r1 := keep_rowA hb1; have f1 := keep_frA hb1; have s1 := hb1.size; (try simp only [World.size_alloc, World.size_setCell, setRow_size, World.size_drew, size_drewNm] at r1 f1 s1)))
    go_ret
    exact ⟨rfl, by repeat' (first | with_reducible exact Below.refl _ _ | with_reducible assumption | with_reducible refine Below.drew ?_ | with_reducible refine Below.drewN ?_ _ | with_reducible refine Below.alloc ?_ ?_ _ | with_reducible refine Below.setCell ?_ ?_ _ | with_reducible refine Below.setRow ?_ ?_ _ | with_reducible refine below_step (by assumption) ?_ ?_ | (show (_ : Nat) ≤ _; first | omega | (simp <;> omega)))⟩
theorem eqMark_own (col : Int) (v1 v2 : Value) (n b1 b2 : Nat) (f : Nat → Int) (hn : n < 1099511627776) (w : World) (h1 : OwnK .i8 2 w b1 v1 n f) (h2 : OwnK .i8 2 w b2 v2 n f) :
    Calls Tryz.prog 80 #[.agg #[.int .i8 col, v1], .agg #[.int .i8 col, v2]] w fun e w' => e = .returned (.bool true) ∧ Below w.heap.size w w' := by
  have H1 := Lib.hid h1
  have H2 := Lib.hid h2
  obtain ⟨a1, cap1, rfl⟩ := h1.len
  obtain ⟨a2, cap2, rfl⟩ := h2.len
  clear h1 h2
  go_enter Tryz.func80, Tryz.ntmps80
  go_wp2_with (go_at_call 120; refine (eqSpotS_own _ _ n _ _ _ hn _ (H1.out.below (by repeat' (first | with_reducible exact Below.refl _ _ | with_reducible assumption | with_reducible refine Below.drew ?_ | with_reducible refine Below.drewN ?_ _ | with_reducible refine Below.alloc ?_ ?_ _ | with_reducible refine Below.setCell ?_ ?_ _ | with_reducible refine Below.setRow ?_ ?_ _ | with_reducible refine below_step (by assumption) ?_ ?_ | (show (_ : Nat) ≤ _; first | omega | (simp <;> omega)))) (Nat.le_refl _)) (H2.out.below (by repeat' (first | with_reducible exact Below.refl _ _ | with_reducible assumption | with_reducible refine Below.drew ?_ | with_reducible refine Below.drewN ?_ _ | with_reducible refine Below.alloc ?_ ?_ _ | with_reducible refine Below.setCell ?_ ?_ _ | with_reducible refine Below.setRow ?_ ?_ _ | with_reducible refine below_step (by assumption) ?_ ?_ | (show (_ : Nat) ≤ _; first | omega | (simp <;> omega)))) (Nat.le_refl _))).mono ?_; rintro e w5 ⟨rfl, hb5⟩; have r_hb5 := keep_rowA hb5; have f_hb5 := keep_frA hb5; have s_hb5 := hb5.size; (try simp only [World.size_alloc, World.size_setCell, setRow_size, World.size_drew, size_drewNm] at r_hb5 f_hb5 s_hb5))
  go_ret
  exact ⟨rfl, by repeat' (first | with_reducible exact Below.refl _ _ | with_reducible assumption | with_reducible refine Below.drew ?_ | with_reducible refine Below.drewN ?_ _ | with_reducible refine Below.alloc ?_ ?_ _ | with_reducible refine Below.setCell ?_ ?_ _ | with_reducible refine Below.setRow ?_ ?_ _ | with_reducible refine below_step (by assumption) ?_ ?_ | (show (_ : Nat) ≤ _; first | omega | (simp <;> omega)))⟩
end Go.Proofs.YtejnejplofddnaaGreatDoor
/- Slices of marks: how such an argument reads; sized, copied and compared by the statements. -/
namespace Go.Proofs.YtejnejplofddnaaGreatDoor
open Go.RowKit Go.ChangeShapes Go.WideShapes Go.ChangeAt Go.Deep
set_option linter.unusedVariables false
set_option linter.unusedSimpArgs false
set_option maxRecDepth 100000
/-- A mark: its colour, its cells' slice, how many and where. -/
structure Mk where
  col : Int
  v : Value
  n : Nat
  f : Nat → Int
def mkV (F : Nat → Mk) (k j : Nat) : Value := if j = 0 then .int .i8 (F k).col else (F k).v
def SlM (w : World) (v : Value) (n : Nat) (F : Nat → Mk) : Prop := SlV 2 w v n (mkV F) ∧ ∀ k, k < n → SlA .i8 2 w (F k).v (F k).n (F k).f
def OwnM (w : World) (b : Nat) (v : Value) (n : Nat) (F : Nat → Mk) : Prop := OwnV 2 w b v n (mkV F) ∧ ∀ k, k < n → OwnK .i8 2 w b (F k).v (F k).n (F k).f
def MkIn (x : Mk) : Prop := (-128 ≤ x.col ∧ x.col ≤ 127) ∧ x.n ≤ 9223372036854775807 ∧ ∀ j, j < x.n * 2 → (Lit.int .i8 (x.f j)).wf = true
/-- The places met so far. -/
def snB (f : Nat → Int) (k q : Nat) : Bool := (List.range k).any fun j => (f (j * 2 + 1)).toNat * 8 + (f (j * 2)).toNat == q
theorem snB_zero (f : Nat → Int) (q : Nat) : snB f 0 q = false := rfl
theorem snB_next (f : Nat → Int) (k q : Nat) : snB f (k + 1) q = (snB f k q || ((f (k * 2 + 1)).toNat * 8 + (f (k * 2)).toNat == q)) := by
  unfold snB
  rw [List.range_succ, List.any_append]
  simp
theorem snB_hit {f : Nat → Int} {k q : Nat} (h : snB f k q = true) : ∃ j, j < k ∧ (f (j * 2 + 1)).toNat * 8 + (f (j * 2)).toNat = q := by
  unfold snB at h
  rw [List.any_eq_true] at h
  obtain ⟨j, hj, h⟩ := h
  exact ⟨j, List.mem_range.1 hj, by simpa using h⟩
theorem snB_miss {f : Nat → Int} {k q : Nat} (h : snB f k q = false) : ∀ j, j < k → (f (j * 2 + 1)).toNat * 8 + (f (j * 2)).toNat ≠ q := fun j hj e => by
  unfold snB at h
  rw [List.any_eq_false] at h
  exact h j (List.mem_range.2 hj) (by simpa using e)
theorem SlM.below {w w' : World} {v : Value} {n : Nat} {F : Nat → Mk} (h : SlM w v n F) {B : Nat} (hb : Below B w w') (hB : w.heap.size ≤ B) : SlM w' v n F := ⟨h.1.below hb hB, fun k hk => (h.2 k hk).below hb hB⟩
theorem OwnM.below {w w' : World} {b : Nat} {v : Value} {n : Nat} {F : Nat → Mk} (h : OwnM w b v n F) {B : Nat} (hb : Below B w w') (hB : w.heap.size ≤ B) : OwnM w' b v n F := ⟨h.1.below hb hB, fun k hk => (h.2 k hk).below hb hB⟩
theorem OwnM.slM {w : World} {b : Nat} {v : Value} {n : Nat} {F : Nat → Mk} (h : OwnM w b v n F) : SlM w v n F := ⟨h.1.slV, fun k hk => (h.2 k hk).slA⟩
theorem mk_read {R : Array Value} {o k : Nat} {F : Nat → Mk} (h : ∀ j, j < 2 → R[o + k * 2 + j]? = some (mkV F k j)) : R[o + k * 2]? = some (.int .i8 (F k).col) ∧ R[o + k * 2 + 1]? = some (F k).v := ⟨h 0 (by omega), h 1 (by omega)⟩
theorem mk_ext2 {R : Array Value} {o k : Nat} {F : Nat → Mk} (h : ∀ j, j < 2 → R[o + k * 2 + j]? = some (mkV F k j)) : rowExt R (o + k * 2) 2 = #[.int .i8 (F k).col, (F k).v] := by
  obtain ⟨h0, h1⟩ := mk_read h
  have hs : o + k * 2 + 2 ≤ R.size := by have := (Array.getElem?_eq_some_iff.1 h1).1; omega
  rw [ext_mk (V := mkV F k) hs h]
  rfl
theorem open_slM {H : Type} {enc : TypeId × Value → H} {P : Program} {w : World} {base b0 : Nat} {spare : Nat → Bool} {held : Bool} {r : Reach} {t e es : TypeId} {v : Value} {d : DataW H} {p : List MemPlace} {f0 f1 : Field}
    (ht : P.underlying t = some (.slice e)) (hu : P.underlying e = some (.struct #[f0, f1])) (u0 : P.underlying f0.type = some (.int .i8)) (u1 : P.underlying f1.type = some (.slice es)) (hf : isFlat P es 2 (fun _ => .i8) = true)
    (o0 : f0.offset = 0) (o1 : f1.offset = 1) (c0 : P.cellsOf f0.type = 1) (c1 : P.cellsOf f1.type = 1) (ct : P.cellsOf e = 2)
    (hv : Value.okWide P w r b0 t v) (h : DataW.Trod enc P w base spare held t v d p) :
    ∃ (n : Nat) (F : Nat → Mk), SlM w v n F ∧ n ≤ 9223372036854775807 ∧ ∀ k, k < n → MkIn (F k) := by
  obtain ⟨a0, len0, cap0, rfl⟩ := okWide_slice ht hv
  obtain ⟨fuel, hx⟩ := h
  rcases open_slice ht hx with ⟨h0, -⟩ | ⟨a, len, cap, m, n, D, Pl, h0, hb, hl, hm, hmm, -, hel⟩
  · simp only [Value.cells] at h0
    simp at h0
    obtain ⟨rfl, rfl, rfl⟩ := h0
    exact ⟨0, fun _ => ⟨0, .slice none 0 0, 0, fun _ => 0⟩, ⟨.inl ⟨rfl, rfl⟩, fun k hk => absurd hk (by omega)⟩, by omega, fun j hj => by omega⟩
  · simp only [Value.cells] at h0
    simp at h0
    obtain ⟨rfl, rfl, rfl⟩ := h0
    have hlm : len0 ≤ m := by rw [hmm]; split <;> omega
    have each : ∀ k, k < len0 → ∃ x : Mk, (MkIn x ∧ SlA .i8 2 w x.v x.n x.f) ∧ ∀ j, j < 2 → w.cell? (a.add (k * 2 + j)) = some (mkV (fun _ => x) 0 j) := by
      intro k hk
      obtain ⟨cs', h1, h2⟩ := hel k (by omega)
      obtain ⟨_, _, hcell⟩ := World.cells?_some h1
      obtain ⟨y0, y1, nn, _, hl2, e0, e1⟩ := trod_struct2 hu h2
      obtain ⟨x, hx, _, wx⟩ := DataW.trod_int u0 e0
      simp only [o0, o1, c0, c1, ct] at hx hl2 e1
      match cs', hl2 with
      | [x', y'], _ =>
        simp at hx e1
        subst hx
        obtain ⟨q, f, hs, hn, hw⟩ := open_slAt u1 hf (by decide) e1
        refine ⟨⟨x, y', q, f⟩, ⟨⟨bd_i8 wx, hn, hw⟩, hs⟩, fun j hj => ?_⟩
        have := hcell j (by rw [ct]; exact hj)
        rw [add_add, ct, Nat.mul_comm] at this
        rw [Nat.mul_comm] at this
        match j, hj with
        | 0, _ => exact this
        | 1, _ => exact this
    obtain ⟨F, hF⟩ : ∃ F : Nat → Mk, ∀ k, k < len0 → (MkIn (F k) ∧ SlA .i8 2 w (F k).v (F k).n (F k).f) ∧ ∀ j, j < 2 → w.cell? (a.add (k * 2 + j)) = some (mkV F k j) := by
      classical
      refine ⟨fun k => if hk : k < len0 then Classical.choose (each k hk) else ⟨0, .slice none 0 0, 0, fun _ => 0⟩, fun k hk => ?_⟩
      have hs := Classical.choose_spec (each k hk)
      refine ⟨by simp only [dif_pos hk]; exact hs.1, fun j hj => ?_⟩
      have := hs.2 j hj
      unfold mkV at this ⊢
      simp only [dif_pos hk]
      exact this
    refine ⟨len0, F, ⟨.inr ⟨a, cap0, rfl, fun hn => ?_⟩, fun k hk => (hF k hk).1.2⟩, by unfold maxLen at hm; omega, fun k hk => (hF k hk).1.1⟩
    have h00 := (hF 0 hn).2 0 (by omega)
    have hspot : a.spot = none := by
      have : a.add 0 = a := by unfold Addr.add; simp
      rw [Nat.zero_mul, Nat.zero_add, this] at h00
      unfold World.cell? at h00
      split at h00
      · split at h00
        · cases h00
        · rename_i hsp; simpa using hsp
      · cases h00
    obtain ⟨g, o, sp⟩ := a
    simp only at hspot
    subst hspot
    have hadd : ∀ j, (⟨g, o, none⟩ : Addr).add j = ⟨g, o + j, none⟩ := fun j => by unfold Addr.add; split <;> simp_all
    have hc : ∀ k, k < len0 → ∀ j, j < 2 → (rowOf w g)[o + (k * 2 + j)]? = some (mkV F k j) := fun k hk j hj => by
      have := (hF k hk).2 j hj
      rw [hadd, cell_row] at this
      exact this
    refine ⟨g, o, rfl, ?_, ?_, fun k hk j hj => by rw [Nat.add_assoc]; exact hc k hk j hj⟩
    · have := h00
      rw [hadd] at this
      exact World.block_lt_of_cell? w _ this
    · have := (Array.getElem?_eq_some_iff.1 (hc (len0 - 1) (by omega) 1 (by omega))).1
      omega
theorem szSpotsL_any (v : Value) (n : Nat) (f : Nat → Int) (left : Int) (hl : 0 ≤ left ∧ left ≤ 1048576) (hn : n ≤ 9223372036854775807) (w : World) (h : SlA .i8 2 w v n f) :
    Calls Tryz.prog 116 #[v, .int .i64 left] w fun e w' => e = .returned (.int .i64 (if left < (n : Int) then -1 else left - (n : Int))) ∧ Below w.heap.size w w' := by
  obtain ⟨a, cap, rfl⟩ := h.len
  clear h
  by_cases hlt : left < (n : Int)
  · rw [if_pos hlt]
    have h1 : IntKind.i64.wrap (left - (n : Int)) = left - (n : Int) := IntWalk.i64_in _ (by omega)
    have h2 : left - (n : Int) < 0 := by omega
    clear hlt
    go_enter Tryz.func116, Tryz.ntmps116
    go_wp2
    go_ret
    exact ⟨rfl, by repeat' (first | with_reducible exact Below.refl _ _ | with_reducible assumption | with_reducible refine Below.drew ?_ | with_reducible refine Below.drewN ?_ _ | with_reducible refine Below.alloc ?_ ?_ _ | with_reducible refine Below.setCell ?_ ?_ _ | with_reducible refine Below.setRow ?_ ?_ _ | with_reducible refine below_step (by assumption) ?_ ?_ | (show (_ : Nat) ≤ _; first | omega | (simp <;> omega)))⟩
  · rw [if_neg hlt]
    have h1 : IntKind.i64.wrap (left - (n : Int)) = left - (n : Int) := IntWalk.i64_in _ (by omega)
    have h2 : ¬ left - (n : Int) < 0 := by omega
    clear hlt
    go_enter Tryz.func116, Tryz.ntmps116
    go_wp2
    go_ret
    exact ⟨rfl, by repeat' (first | with_reducible exact Below.refl _ _ | with_reducible assumption | with_reducible refine Below.drew ?_ | with_reducible refine Below.drewN ?_ _ | with_reducible refine Below.alloc ?_ ?_ _ | with_reducible refine Below.setCell ?_ ?_ _ | with_reducible refine Below.setRow ?_ ?_ _ | with_reducible refine below_step (by assumption) ?_ ?_ | (show (_ : Nat) ≤ _; first | omega | (simp <;> omega)))⟩
theorem szMarkL_any (col : Int) (v : Value) (n : Nat) (f : Nat → Int) (left : Int) (hl : 0 ≤ left ∧ left ≤ 1048576) (hn : n ≤ 9223372036854775807) (w : World) (h : SlA .i8 2 w v n f) :
    Calls Tryz.prog 75 #[.agg #[.int .i8 col, v], .int .i64 left] w fun e w' => e = .returned (.int .i64 (if left < (n : Int) then -1 else left - (n : Int))) ∧ Below w.heap.size w w' := by
  have HH := Lib.hid h
  obtain ⟨a0, cap0, rfl⟩ := h.len
  have HZ0 := fun w h => szSpotsL_any (.slice a0 n cap0) n f left hl hn w h
  clear h
  by_cases hbig : left < (n : Int)
  · rw [if_pos hbig] at HZ0 ⊢
    have HZ := Lib.hid HZ0
    clear HZ0 hbig
    go_enter Tryz.func75, Tryz.ntmps75
    go_wp2_with ((go_at_call 116; refine (HZ.out _ (HH.out.below (by repeat' (first | with_reducible exact Below.refl _ _ | with_reducible assumption | with_reducible refine Below.drew ?_ | with_reducible refine Below.drewN ?_ _ | with_reducible refine Below.alloc ?_ ?_ _ | with_reducible refine Below.setCell ?_ ?_ _ | with_reducible refine Below.setRow ?_ ?_ _ | with_reducible refine below_step (by assumption) ?_ ?_ | (show (_ : Nat) ≤ _; first | omega | (simp <;> omega)))) (Nat.le_refl _))).mono ?_; rintro e w1 ⟨rfl, hb1⟩; have r1 := keep_rowA hb1; have f1 := keep_frA hb1; have s1 := hb1.size; (try simp only [World.size_alloc, World.size_setCell, setRow_size, World.size_drew, size_drewNm] at r1 f1 s1)))
    go_ret
    exact ⟨rfl, by repeat' (first | with_reducible exact Below.refl _ _ | with_reducible assumption | with_reducible refine Below.drew ?_ | with_reducible refine Below.drewN ?_ _ | with_reducible refine Below.alloc ?_ ?_ _ | with_reducible refine Below.setCell ?_ ?_ _ | with_reducible refine Below.setRow ?_ ?_ _ | with_reducible refine below_step (by assumption) ?_ ?_ | (show (_ : Nat) ≤ _; first | omega | (simp <;> omega)))⟩
  · rw [if_neg hbig] at HZ0 ⊢
    have HZ := Lib.hid HZ0
    have hz : ¬ (left - (n : Int) < 0) := by omega
    clear hbig HZ0
    go_enter Tryz.func75, Tryz.ntmps75
    go_wp2_with ((go_at_call 116; refine (HZ.out _ (HH.out.below (by repeat' (first | with_reducible exact Below.refl _ _ | with_reducible assumption | with_reducible refine Below.drew ?_ | with_reducible refine Below.drewN ?_ _ | with_reducible refine Below.alloc ?_ ?_ _ | with_reducible refine Below.setCell ?_ ?_ _ | with_reducible refine Below.setRow ?_ ?_ _ | with_reducible refine below_step (by assumption) ?_ ?_ | (show (_ : Nat) ≤ _; first | omega | (simp <;> omega)))) (Nat.le_refl _))).mono ?_; rintro e w1 ⟨rfl, hb1⟩; have r1 := keep_rowA hb1; have f1 := keep_frA hb1; have s1 := hb1.size; (try simp only [World.size_alloc, World.size_setCell, setRow_size, World.size_drew, size_drewNm] at r1 f1 s1)))
    go_ret
    exact ⟨rfl, by repeat' (first | with_reducible exact Below.refl _ _ | with_reducible assumption | with_reducible refine Below.drew ?_ | with_reducible refine Below.drewN ?_ _ | with_reducible refine Below.alloc ?_ ?_ _ | with_reducible refine Below.setCell ?_ ?_ _ | with_reducible refine Below.setRow ?_ ?_ _ | with_reducible refine below_step (by assumption) ?_ ?_ | (show (_ : Nat) ≤ _; first | omega | (simp <;> omega)))⟩
set_option maxHeartbeats 2000000 in
theorem szMarkS_any (v : Value) (n : Nat) (F : Nat → Mk) (hn : n ≤ 9223372036854775807) (hF : ∀ k, k < n → MkIn (F k)) (w : World) (h : SlM w v n F) :
    Calls Tryz.prog 26 #[v, .int .i64 1048576] w fun e w' => ∃ r : Int, e = .returned (.int .i64 r) ∧ (r < 0 ∨ (0 ≤ r ∧ n ≤ 1048576 ∧ ∀ k, k < n → (F k).n ≤ 1048576)) ∧ (-1 ≤ r ∧ r ≤ 1048576) ∧ Below w.heap.size w w' := by
  have HH := Lib.hid h
  have HF := Lib.hid hF
  obtain ⟨a, cap, rfl⟩ := h.1.len
  clear h hF
  by_cases hbig : (1048576 : Int) < (n : Int)
  · have h2 : (1048576 : Int) - (n : Int) < 0 := by omega
    clear hbig
    go_enter Tryz.func26, Tryz.ntmps26
    go_wp2
    go_ret
    exact ⟨-1, rfl, .inl (by omega), by omega, by repeat' (first | with_reducible exact Below.refl _ _ | with_reducible assumption | with_reducible refine Below.drew ?_ | with_reducible refine Below.drewN ?_ _ | with_reducible refine Below.alloc ?_ ?_ _ | with_reducible refine Below.setCell ?_ ?_ _ | with_reducible refine Below.setRow ?_ ?_ _ | with_reducible refine below_step (by assumption) ?_ ?_ | (show (_ : Nat) ≤ _; first | omega | (simp <;> omega)))⟩
  · have h2 : ¬ (1048576 : Int) - (n : Int) < 0 := by omega
    have hn2 : n ≤ 1048576 := by omega
    clear hbig
    go_enter Tryz.func26, Tryz.ntmps26
    go_wp2
    go_loopw [5, 1] (fun i s wr => ∃ (k : Nat) (l : Int), k ≤ n ∧ i = .int .i64 k ∧ s = .int .i64 l ∧ (0 ≤ l ∧ l ≤ 1048576) ∧ Below w.heap.size w wr ∧ ∀ j, j < k → (F j).n ≤ 1048576) (fun i s wr => n - (intOf i).toNat)
    case atStart => exact ⟨0, 1048576 - (n : Int), by omega, rfl, rfl, by omega, by repeat' (first | with_reducible exact Below.refl _ _ | with_reducible assumption | with_reducible refine Below.drew ?_ | with_reducible refine Below.drewN ?_ _ | with_reducible refine Below.alloc ?_ ?_ _ | with_reducible refine Below.setCell ?_ ?_ _ | with_reducible refine Below.setRow ?_ ?_ _ | with_reducible refine below_step (by assumption) ?_ ?_ | (show (_ : Nat) ≤ _; first | omega | (simp <;> omega))), fun j hj => by omega⟩
    case round =>
      obtain ⟨k, l, hk, rfl, rfl, hl, hb, hd⟩ := hrel
      have HD := Lib.hid hd
      have hsz0 := hb.size
      clear hd
      by_cases hlt : k < n
      · obtain ⟨g, o, cap', hv, hg, hRs, hcells⟩ := HH.out.1.pos (by omega)
        simp only [Value.slice.injEq] at hv
        obtain ⟨rfl, -, rfl⟩ := hv
        have hr1 := keep_row hb hg
        have hw1 : g < wr.heap.size := Nat.lt_of_lt_of_le hg hb.size
        have he : rowExt (rowOf w g) (o + k * 2) 2 = #[.int .i8 (F k).col, (F k).v] := mk_ext2 (hcells k hlt)
        obtain ⟨R, hR⟩ : ∃ R, rowOf w g = R := ⟨_, rfl⟩
        rw [hR] at hr1 he hRs
        have hRk : o + k * 2 + 2 ≤ R.size := by omega
        have HS := Lib.hid (HH.out.2 k hlt)
        have HZ0 := fun w h => szMarkL_any (F k).col (F k).v (F k).n (F k).f l hl (HF.out k hlt).2.1 w h
        have hlt2 : (k : Int) < (n : Int) := by omega
        clear hcells hR
        by_cases hq : l < ((F k).n : Int)
        · rw [if_pos hq] at HZ0
          have HZ := Lib.hid HZ0
          clear HZ0 hq
          generalize (F k).v = vk at *
          go_wp2_with ((go_at_call 75; refine (HZ.out _ (HS.out.below (by repeat' (first | with_reducible exact Below.refl _ _ | with_reducible assumption | with_reducible refine Below.drew ?_ | with_reducible refine Below.drewN ?_ _ | with_reducible refine Below.alloc ?_ ?_ _ | with_reducible refine Below.setCell ?_ ?_ _ | with_reducible refine Below.setRow ?_ ?_ _ | with_reducible refine below_step (by assumption) ?_ ?_ | (show (_ : Nat) ≤ _; first | omega | (simp <;> omega)))) (Nat.le_refl _))).mono ?_; rintro e w1 ⟨rfl, hb1⟩; have r1 := keep_rowA hb1; have f1 := keep_frA hb1; have s1 := hb1.size; (try simp only [World.size_alloc, World.size_setCell, setRow_size, World.size_drew, size_drewNm] at r1 f1 s1)))
          go_ret
          exact ⟨-1, rfl, .inl (by omega), by omega, by repeat' (first | with_reducible exact Below.refl _ _ | with_reducible assumption | with_reducible refine Below.drew ?_ | with_reducible refine Below.drewN ?_ _ | with_reducible refine Below.alloc ?_ ?_ _ | with_reducible refine Below.setCell ?_ ?_ _ | with_reducible refine Below.setRow ?_ ?_ _ | with_reducible refine below_step (by assumption) ?_ ?_ | (show (_ : Nat) ≤ _; first | omega | (simp <;> omega)))⟩
        · rw [if_neg hq] at HZ0
          have HZ := Lib.hid HZ0
          have hz : ¬ (l - ((F k).n : Int) < 0) := by omega
          have HN := Lib.hid (show ∀ j, j < k + 1 → (F j).n ≤ 1048576 from fun j hj => by
            rcases Nat.lt_succ_iff_lt_or_eq.1 hj with h | rfl
            · exact HD.out j h
            · omega)
          clear HZ0
          generalize (F k).v = vk at *
          go_wp2_with ((go_at_call 75; refine (HZ.out _ (HS.out.below (by repeat' (first | with_reducible exact Below.refl _ _ | with_reducible assumption | with_reducible refine Below.drew ?_ | with_reducible refine Below.drewN ?_ _ | with_reducible refine Below.alloc ?_ ?_ _ | with_reducible refine Below.setCell ?_ ?_ _ | with_reducible refine Below.setRow ?_ ?_ _ | with_reducible refine below_step (by assumption) ?_ ?_ | (show (_ : Nat) ≤ _; first | omega | (simp <;> omega)))) (Nat.le_refl _))).mono ?_; rintro e w1 ⟨rfl, hb1⟩; have r1 := keep_rowA hb1; have f1 := keep_frA hb1; have s1 := hb1.size; (try simp only [World.size_alloc, World.size_setCell, setRow_size, World.size_drew, size_drewNm] at r1 f1 s1)))
          go_roundw
          case rel => first | exact ⟨k + 1, l - ((F k).n : Int), by omega, by go_num, rfl, by omega, by repeat' (first | with_reducible exact Below.refl _ _ | with_reducible assumption | with_reducible refine Below.drew ?_ | with_reducible refine Below.drewN ?_ _ | with_reducible refine Below.alloc ?_ ?_ _ | with_reducible refine Below.setCell ?_ ?_ _ | with_reducible refine Below.setRow ?_ ?_ _ | with_reducible refine below_step (by assumption) ?_ ?_ | (show (_ : Nat) ≤ _; first | omega | (simp <;> omega))), HN.out⟩ | ((repeat (with_reducible apply Exists.intro)); refine And.intro ?_ ?_; rotate_left; (focus ((repeat' (with_reducible apply And.intro)) <;> rfl)); exact ⟨k + 1, l - ((F k).n : Int), by omega, by go_num, rfl, by omega, by repeat' (first | with_reducible exact Below.refl _ _ | with_reducible assumption | with_reducible refine Below.drew ?_ | with_reducible refine Below.drewN ?_ _ | with_reducible refine Below.alloc ?_ ?_ _ | with_reducible refine Below.setCell ?_ ?_ _ | with_reducible refine Below.setRow ?_ ?_ _ | with_reducible refine below_step (by assumption) ?_ ?_ | (show (_ : Nat) ≤ _; first | omega | (simp <;> omega))), HN.out⟩)
          case measure => simp [intOf]; omega
      · have hke : k = n := by omega
        subst hke
        go_wp2
        go_ret
        exact ⟨l, rfl, .inr ⟨by omega, hn2, HD.out⟩, by omega, by repeat' (first | with_reducible exact Below.refl _ _ | with_reducible assumption | with_reducible refine Below.drew ?_ | with_reducible refine Below.drewN ?_ _ | with_reducible refine Below.alloc ?_ ?_ _ | with_reducible refine Below.setCell ?_ ?_ _ | with_reducible refine Below.setRow ?_ ?_ _ | with_reducible refine below_step (by assumption) ?_ ?_ | (show (_ : Nat) ≤ _; first | omega | (simp <;> omega)))⟩
theorem mark_info : ∃ i z, Tryz.prog.info? 51 = some i ∧ i.zero = some z ∧ i.size = 2 ∧ i.bytes = 32 ∧ z.cells.size = 2 := by
  have h : (match Tryz.prog.info? 51 with | some i => (match i.zero with | some z => i.size == 2 && i.bytes == 32 && z.cells.size == 2 | none => false) | none => false) = true := by kernel_rfl
  split at h
  · rename_i i hi
    split at h
    · rename_i z hz
      simp only [Bool.and_eq_true, beq_iff_eq] at h
      exact ⟨i, z, hi, hz, h.1.1, h.1.2, h.2⟩
    · cases h
  · cases h
theorem mark_made : ∃ Z : Nat → Array Value, ∀ n, (Z n).size = n * 2 ∧ (n ≤ 1048576 → ∀ w : World, (Instr.makeSlice 35 (.int .i64 (n : Int)) (.int .i64 (n : Int))).run Tryz.prog w = .ok (.slice (some ⟨w.heap.size, 0, none⟩) n n) (w.alloc (.cells (Z n) 51))) := by
  obtain ⟨i0, z0, hi0, hz0, hs0, hb0, hc0⟩ := mark_info
  refine ⟨fun n => madeCells z0.cells (n * 2), fun n => ⟨size_madeCells _ _, fun hn w => ?_⟩⟩
  have := run_make (P := Tryz.prog) w 35 51 i0 z0 Tryz.underlying35 hi0 hz0 .i64 .i64 n n (by omega) (by omega) (by rw [hb0]; omega) (by omega)
  rw [hs0] at this
  simpa using this
def setV (F : Nat → Mk) (G : Nat → Value) (k : Nat) : Mk := ⟨(F k).col, G k, (F k).n, (F k).f⟩
def upV (G : Nat → Value) (k : Nat) (u : Value) : Nat → Value := fun i => if i = k then u else G i
theorem put_mark {d : Array Value} {n k : Nat} {F : Nat → Mk} {G : Nat → Value} {u : Value} (hds : d.size = n * 2) (hk : k < n) (h : ∀ i, i < k → ∀ j, j < 2 → d[i * 2 + j]? = some (mkV (setV F G) i j)) :
    ∀ i, i < k + 1 → ∀ j, j < 2 → (splice d (k * 2) #[.int .i8 (F k).col, u])[i * 2 + j]? = some (mkV (setV F (upV G k u)) i j) := by
  intro i hi j hj
  have hs2 : (#[Value.int .i8 (F k).col, u] : Array Value).size = 2 := rfl
  rw [splice_get _ _ _ _ (by rw [hs2]; omega), hs2]
  by_cases hik : i = k
  · subst hik
    rw [if_pos (by omega), show i * 2 + j - i * 2 = j by omega]
    unfold mkV setV upV
    match j, hj with
    | 0, _ => rfl
    | 1, _ => simp
  · rw [if_neg (by omega), h i (by omega) j hj]
    unfold mkV setV upV
    simp only [if_neg hik]
theorem put_cells {w : World} {b k : Nat} {F : Nat → Mk} {G : Nat → Value} {u : Value} (h : ∀ i, i < k → OwnK .i8 2 w b (G i) (F i).n (F i).f) (hu : OwnK .i8 2 w b u (F k).n (F k).f) : ∀ i, i < k + 1 → OwnK .i8 2 w b (upV G k u i) (F i).n (F i).f := fun i hi => by
  unfold upV
  by_cases hik : i = k
  · subst hik; rw [if_pos rfl]; exact hu
  · rw [if_neg hik]; exact h i (by omega)
set_option maxHeartbeats 4000000 in
theorem toMarkS_any (v : Value) (n : Nat) (F : Nat → Mk) (hn : n ≤ 1048576) (hF : ∀ k, k < n → (F k).n ≤ 1048576) (w : World) (h : SlM w v n F) :
    Calls Tryz.prog 28 #[v] w fun e w' => ∃ v' G, e = .returned v' ∧ OwnM w' w.heap.size v' n (setV F G) ∧ Below w.heap.size w w' := by
  obtain ⟨Z, hZ⟩ := mark_made
  have hzs := (hZ n).1
  have hmk := (hZ n).2 hn
  clear hZ
  generalize Z n = z at hzs hmk
  obtain ⟨a, cap, rfl⟩ := h.1.len
  have HH := Lib.hid h
  have HF := Lib.hid hF
  clear h hF
  go_enter Tryz.func28, Tryz.ntmps28
  go_wp2
  go_loopw [4] (fun i wr => ∃ (k : Nat) (d : Array Value) (G : Nat → Value), k ≤ n ∧ i = .int .i64 k ∧ Below w.heap.size w wr ∧ w.heap.size + 1 ≤ wr.heap.size ∧ frOf wr w.heap.size = (0, 0) ∧ rowOf wr w.heap.size = d ∧ d.size = n * 2 ∧ (∀ i, i < k → ∀ j, j < 2 → d[i * 2 + j]? = some (mkV (setV F G) i j)) ∧ ∀ i, i < k → OwnK .i8 2 wr (w.heap.size + 1) (G i) (F i).n (F i).f) (fun i wr => n - (intOf i).toNat)
  case atStart => exact ⟨0, z, fun _ => .slice none 0 0, by omega, rfl, by repeat' (first | with_reducible exact Below.refl _ _ | with_reducible assumption | with_reducible refine Below.drew ?_ | with_reducible refine Below.drewN ?_ _ | with_reducible refine Below.alloc ?_ ?_ _ | with_reducible refine Below.setCell ?_ ?_ _ | with_reducible refine Below.setRow ?_ ?_ _ | with_reducible refine below_step (by assumption) ?_ ?_ | (show (_ : Nat) ≤ _; first | omega | (simp <;> omega))), by simp, by (go_simp <;> (intros; omega)), by (go_simp <;> (intros; omega)), hzs, fun j hj => absurd hj (by omega), fun j hj => absurd hj (by omega)⟩
  case round =>
    obtain ⟨k, d, G, hk, rfl, hb, hsz, hfr, hrd, hds, hd, hc⟩ := hrel
    have HD := Lib.hid hd
    have HC := Lib.hid hc
    clear hd hc
    by_cases hlt : k < n
    · obtain ⟨g, o, cap', hv, hg, hRs, hcells⟩ := HH.out.1.pos (by omega)
      simp only [Value.slice.injEq] at hv
      obtain ⟨rfl, -, rfl⟩ := hv
      have hr1 := keep_row hb hg
      have hw1 : g < wr.heap.size := Nat.lt_of_lt_of_le hg hb.size
      have he : rowExt (rowOf w g) (o + k * 2) 2 = #[.int .i8 (F k).col, (F k).v] := mk_ext2 (hcells k hlt)
      have HP := Lib.hid (fun u => put_mark (u := u) hds hlt HD.out)
      have HS := Lib.hid (HH.out.2 k hlt)
      have HT0 := fun w h => toMark_any (F k).col (F k).v (F k).n (F k).f (HF.out k hlt) w h
      have HT := Lib.hid HT0
      obtain ⟨R, hR⟩ : ∃ R, rowOf w g = R := ⟨_, rfl⟩
      rw [hR] at hr1 he hRs
      have hRk : o + k * 2 + 2 ≤ R.size := by omega
      have hlt2 : (k : Int) < (n : Int) := by omega
      clear hcells hR HT0
      generalize hvk : (F k).v = vk at *
      generalize hck : (F k).col = ck at *
      go_wp2_with (go_at_call 79; refine (HT.out _ (HS.out.below (by repeat' (first | with_reducible exact Below.refl _ _ | with_reducible assumption | with_reducible refine Below.drew ?_ | with_reducible refine Below.drewN ?_ _ | with_reducible refine Below.alloc ?_ ?_ _ | with_reducible refine Below.setCell ?_ ?_ _ | with_reducible refine Below.setRow ?_ ?_ _ | with_reducible refine below_step (by assumption) ?_ ?_ | (show (_ : Nat) ≤ _; first | omega | (simp <;> omega)))) (Nat.le_refl _))).mono ?_; rintro e wt ⟨vt, rfl, ho, hbt⟩; obtain ⟨at0, capt, rfl⟩ := ho.len; have r_hbt := keep_rowA hbt; have f_hbt := keep_frA hbt; have s_hbt := hbt.size; (try simp only [World.size_alloc, World.size_setCell, setRow_size, World.size_drew, size_drewNm] at r_hbt f_hbt s_hbt); have HO := Lib.hid (ho.down (b' := w.heap.size + 1) (by first | omega | (simp <;> omega))); clear ho)
      have HK := Lib.hid (show ∀ i, i < k + 1 → OwnK .i8 2 wt (w.heap.size + 1) (upV G k (.slice at0 (F k).n capt) i) (F i).n (F i).f from put_cells (fun i hi => (HC.out i hi).below (by repeat' (first | with_reducible exact Below.refl _ _ | with_reducible assumption | with_reducible refine Below.drew ?_ | with_reducible refine Below.drewN ?_ _ | with_reducible refine Below.alloc ?_ ?_ _ | with_reducible refine Below.setCell ?_ ?_ _ | with_reducible refine Below.setRow ?_ ?_ _ | with_reducible refine below_step (by assumption) ?_ ?_ | (show (_ : Nat) ≤ _; first | omega | (simp <;> omega)))) (Nat.le_refl _)) HO.out)
      go_roundw
      case rel => exact ⟨k + 1, splice d (k * 2) #[.int .i8 ck, .slice at0 (F k).n capt], upV G k (.slice at0 (F k).n capt), by omega, by go_num, by repeat' (first | with_reducible exact Below.refl _ _ | with_reducible assumption | with_reducible refine Below.drew ?_ | with_reducible refine Below.drewN ?_ _ | with_reducible refine Below.alloc ?_ ?_ _ | with_reducible refine Below.setCell ?_ ?_ _ | with_reducible refine Below.setRow ?_ ?_ _ | with_reducible refine below_step (by assumption) ?_ ?_ | (show (_ : Nat) ≤ _; first | omega | (simp <;> omega))), by simp; omega, by (go_simp <;> (intros; omega)), by (go_simp <;> (intros; omega)), by rw [splice_size]; exact hds, HP.out _, fun i hi => (HK.out i hi).other (by simp) (fun q h1 h2 => by
          have hq : q ≠ w.heap.size := by omega
          exact ⟨by go_simp, by go_simp⟩)⟩
      case measure => simp [intOf]; omega
    · have hke : k = n := by omega
      subst hke
      go_wp2
      go_ret
      exact ⟨_, G, rfl, ⟨.inr ⟨_, _, rfl, Nat.le_refl _, by omega, hfr, by rw [hrd]; omega, fun i hi j hj => by rw [hrd]; exact HD.out i hi j hj⟩, fun i hi => (HC.out i hi).down (by omega)⟩, by repeat' (first | with_reducible exact Below.refl _ _ | with_reducible assumption | with_reducible refine Below.drew ?_ | with_reducible refine Below.drewN ?_ _ | with_reducible refine Below.alloc ?_ ?_ _ | with_reducible refine Below.setCell ?_ ?_ _ | with_reducible refine Below.setRow ?_ ?_ _ | with_reducible refine below_step (by assumption) ?_ ?_ | (show (_ : Nat) ≤ _; first | omega | (simp <;> omega)))⟩
set_option maxHeartbeats 2000000 in
theorem eqMarkS_own (v1 v2 : Value) (n b1 b2 : Nat) (F : Nat → Mk) (G1 G2 : Nat → Value) (hn : n < 1099511627776) (hF : ∀ k, k < n → (F k).n ≤ 1048576) (w : World) (h1 : OwnM w b1 v1 n (setV F G1)) (h2 : OwnM w b2 v2 n (setV F G2)) :
    Calls Tryz.prog 31 #[v1, v2] w fun e w' => e = .returned (.bool true) ∧ Below w.heap.size w w' := by
  rcases Nat.eq_zero_or_pos n with hz | hp
  · subst hz
    obtain ⟨a1, c1, rfl⟩ := h1.1.len
    obtain ⟨a2, c2, rfl⟩ := h2.1.len
    clear h1 h2
    go_enter Tryz.func31, Tryz.ntmps31
    go_wp2
    go_loopw [5] (fun i wr => i = .int .i64 (0 : Nat) ∧ Below w.heap.size w wr) (fun i wr => 0)
    case atStart => exact ⟨rfl, by repeat' (first | with_reducible exact Below.refl _ _ | with_reducible assumption | with_reducible refine Below.drew ?_ | with_reducible refine Below.drewN ?_ _ | with_reducible refine Below.alloc ?_ ?_ _ | with_reducible refine Below.setCell ?_ ?_ _ | with_reducible refine Below.setRow ?_ ?_ _ | with_reducible refine below_step (by assumption) ?_ ?_ | (show (_ : Nat) ≤ _; first | omega | (simp <;> omega)))⟩
    case round =>
      obtain ⟨rfl, hb⟩ := hrel
      go_wp2
      go_ret
      exact ⟨rfl, by repeat' (first | with_reducible exact Below.refl _ _ | with_reducible assumption | with_reducible refine Below.drew ?_ | with_reducible refine Below.drewN ?_ _ | with_reducible refine Below.alloc ?_ ?_ _ | with_reducible refine Below.setCell ?_ ?_ _ | with_reducible refine Below.setRow ?_ ?_ _ | with_reducible refine below_step (by assumption) ?_ ?_ | (show (_ : Nat) ≤ _; first | omega | (simp <;> omega)))⟩
  · obtain ⟨g1, c1, rfl, -, hg1, -, hs1, ht1⟩ := h1.1.pos hp
    obtain ⟨g2, c2, rfl, -, hg2, -, hs2, ht2⟩ := h2.1.pos hp
    have HX := Lib.hid (fun k (hk : k < n) => And.intro (mk_ext2 (o := 0) (by rw [Nat.zero_add]; exact ht1 k hk)) (mk_ext2 (o := 0) (by rw [Nat.zero_add]; exact ht2 k hk)))
    have H1 := Lib.hid h1.2
    have H2 := Lib.hid h2.2
    obtain ⟨R1, hR1⟩ : ∃ R, rowOf w g1 = R := ⟨_, rfl⟩
    obtain ⟨R2, hR2⟩ : ∃ R, rowOf w g2 = R := ⟨_, rfl⟩
    rw [hR1, hR2] at HX
    rw [hR1] at hs1
    rw [hR2] at hs2
    clear h1 h2 ht1 ht2
    go_enter Tryz.func31, Tryz.ntmps31
    go_wp2
    go_loopw [5] (fun i wr => ∃ k : Nat, k ≤ n ∧ i = .int .i64 k ∧ Below w.heap.size w wr) (fun i wr => n - (intOf i).toNat)
    case atStart => exact ⟨0, by omega, rfl, by repeat' (first | with_reducible exact Below.refl _ _ | with_reducible assumption | with_reducible refine Below.drew ?_ | with_reducible refine Below.drewN ?_ _ | with_reducible refine Below.alloc ?_ ?_ _ | with_reducible refine Below.setCell ?_ ?_ _ | with_reducible refine Below.setRow ?_ ?_ _ | with_reducible refine below_step (by assumption) ?_ ?_ | (show (_ : Nat) ≤ _; first | omega | (simp <;> omega)))⟩
    case round =>
      obtain ⟨k, hk, rfl, hb⟩ := hrel
      have hr1 := (keep_row hb hg1).trans hR1
      have hr2 := (keep_row hb hg2).trans hR2
      have hw1 : g1 < wr.heap.size := Nat.lt_of_lt_of_le hg1 hb.size
      have hw2 : g2 < wr.heap.size := Nat.lt_of_lt_of_le hg2 hb.size
      have hsz := hb.size
      clear hR1 hR2
      by_cases hlt : k < n
      · obtain ⟨e1, e2⟩ := HX.out k hlt
        rw [Nat.zero_add] at e1 e2
        have HE := Lib.hid (fun w h1 h2 => eqMark_own (F k).col (G1 k) (G2 k) (F k).n b1 b2 (F k).f (by have := hF k hlt; omega) w h1 h2)
        have HA := Lib.hid (H1.out k hlt)
        have HB := Lib.hid (H2.out k hlt)
        change rowExt R1 (k * 2) 2 = #[.int .i8 (F k).col, G1 k] at e1
        change rowExt R2 (k * 2) 2 = #[.int .i8 (F k).col, G2 k] at e2
        have hlt2 : (k : Int) < (n : Int) := by omega
        have hq1 : k * 2 + 2 ≤ R1.size := by omega
        have hq2 : k * 2 + 2 ≤ R2.size := by omega
        clear hF
        go_wp2
        go_still_tail 8, (by kernel_rfl)
        change wpList _ _ _ _ _ (World.drew _)
        go_wp2_with (go_at_call 80; refine (HE.out _ (HA.out.below (by repeat' (first | with_reducible exact Below.refl _ _ | with_reducible assumption | with_reducible refine Below.drew ?_ | with_reducible refine Below.drewN ?_ _ | with_reducible refine Below.alloc ?_ ?_ _ | with_reducible refine Below.setCell ?_ ?_ _ | with_reducible refine Below.setRow ?_ ?_ _ | with_reducible refine below_step (by assumption) ?_ ?_ | (show (_ : Nat) ≤ _; first | omega | (simp <;> omega)))) (Nat.le_refl _)) (HB.out.below (by repeat' (first | with_reducible exact Below.refl _ _ | with_reducible assumption | with_reducible refine Below.drew ?_ | with_reducible refine Below.drewN ?_ _ | with_reducible refine Below.alloc ?_ ?_ _ | with_reducible refine Below.setCell ?_ ?_ _ | with_reducible refine Below.setRow ?_ ?_ _ | with_reducible refine below_step (by assumption) ?_ ?_ | (show (_ : Nat) ≤ _; first | omega | (simp <;> omega)))) (Nat.le_refl _))).mono ?_; rintro e we ⟨rfl, hbe⟩; have r_hbe := keep_rowA hbe; have f_hbe := keep_frA hbe; have s_hbe := hbe.size; (try simp only [World.size_alloc, World.size_setCell, setRow_size, World.size_drew, size_drewNm] at r_hbe f_hbe s_hbe))
        go_roundw
        case rel => first | exact ⟨k + 1, by omega, by go_num, by repeat' (first | with_reducible exact Below.refl _ _ | with_reducible assumption | with_reducible refine Below.drew ?_ | with_reducible refine Below.drewN ?_ _ | with_reducible refine Below.alloc ?_ ?_ _ | with_reducible refine Below.setCell ?_ ?_ _ | with_reducible refine Below.setRow ?_ ?_ _ | with_reducible refine below_step (by assumption) ?_ ?_ | (show (_ : Nat) ≤ _; first | omega | (simp <;> omega)))⟩ | ((repeat (with_reducible apply Exists.intro)); refine And.intro ?_ ?_; rotate_left; (focus ((repeat' (with_reducible apply And.intro)) <;> rfl)); exact ⟨k + 1, by omega, by go_num, by repeat' (first | with_reducible exact Below.refl _ _ | with_reducible assumption | with_reducible refine Below.drew ?_ | with_reducible refine Below.drewN ?_ _ | with_reducible refine Below.alloc ?_ ?_ _ | with_reducible refine Below.setCell ?_ ?_ _ | with_reducible refine Below.setRow ?_ ?_ _ | with_reducible refine below_step (by assumption) ?_ ?_ | (show (_ : Nat) ≤ _; first | omega | (simp <;> omega)))⟩)
        case measure => simp [intOf]; omega
      · clear hr1 hr2
        go_wp2
        go_ret
        exact ⟨rfl, by repeat' (first | with_reducible exact Below.refl _ _ | with_reducible assumption | with_reducible refine Below.drew ?_ | with_reducible refine Below.drewN ?_ _ | with_reducible refine Below.alloc ?_ ?_ _ | with_reducible refine Below.setCell ?_ ?_ _ | with_reducible refine Below.setRow ?_ ?_ _ | with_reducible refine below_step (by assumption) ?_ ?_ | (show (_ : Nat) ≤ _; first | omega | (simp <;> omega)))⟩
end Go.Proofs.YtejnejplofddnaaGreatDoor
