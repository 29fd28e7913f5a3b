/- Several texts in one: SlI OpenSl Kx SlV SlS SpotS MarkT MkS. -/
import Derived.Test.YtejnejplofddnaaGreatDoorBase
import Derived.Test.YtejnejplofddnaaGreatDoorCells
import Derived.Test.YtejnejplofddnaaGreatDoorWaterI
import Derived.Lib.Hide
import Derived.RegionTactic
import Derived.Test.YtejnejplofddnaaGreatDoorOpen
import Derived.Deep.Slices
import Derived.Test.YtejnejplofddnaaGreatDoorMem
import Derived.StillTailTactics
import Derived.Test.YtejnejplofddnaaGreatDoorAskBase
import Derived.Laws.MakeOwn
import Derived.Lib.SliceRun
/- Slices of numbers: the statements' own comparing, marking and looking up. -/
namespace Go.Proofs.YtejnejplofddnaaGreatDoor
open Go.RowKit
set_option linter.unusedVariables false
set_option linter.unusedSimpArgs false
set_option maxRecDepth 100000
/-- A slice of n elements of s numbers each, of one kind: the numbers are f's; if it isn't nil its block may be written and lies at base or behind. -/
def OwnK (k : IntKind) (s : Nat) (w : World) (base : Nat) (v : Value) (n : Nat) (f : Nat → Int) : Prop :=
  (v = .slice none 0 0 ∧ n = 0) ∨ ∃ g cap, v = .slice (some ⟨g, 0, none⟩) n cap ∧ base ≤ g ∧ g < w.heap.size ∧ frOf w g = (0, 0) ∧ n * s ≤ (rowOf w g).size ∧ ∀ j, j < n * s → (rowOf w g)[j]? = some (.int k (f j))
section
variable {k : IntKind} {s : Nat} {w w' : World} {base : Nat} {v : Value} {n : Nat} {f f' : Nat → Int}
theorem OwnK.len (h : OwnK k s w base v n f) : ∃ a cap, v = .slice a n cap := by
  rcases h with ⟨rfl, rfl⟩ | ⟨g, cap, rfl, _⟩ <;> exact ⟨_, _, rfl⟩
theorem OwnK.pos (h : OwnK k s w base v n f) (hn : 0 < n) : ∃ g cap, v = .slice (some ⟨g, 0, none⟩) n cap ∧ base ≤ g ∧ g < w.heap.size ∧ frOf w g = (0, 0) ∧ n * s ≤ (rowOf w g).size ∧ ∀ j, j < n * s → (rowOf w g)[j]? = some (.int k (f j)) := by
  rcases h with ⟨rfl, rfl⟩ | h
  · omega
  · exact h
theorem OwnK.of {e : TypeId} {xs : List Value} (h : w.ownsRow base e s v n xs) (hx : ∀ j, j < n * s → xs[j]? = some (.int k (f j))) : OwnK k s w base v n f := by
  obtain ⟨hl, ⟨rfl, rfl⟩ | ⟨g, cap, cur, rfl, hb, hg, h1, h2, h3, ht⟩⟩ := h
  · exact .inl ⟨rfl, rfl⟩
  · have hrow : rowOf w g = cur := by simp [rowOf, hg, objRow]
    refine .inr ⟨g, cap, rfl, hb, (Array.getElem?_eq_some_iff.1 hg).1, by simp [frOf, hg, objFr], by rw [hrow, h3]; exact Nat.mul_le_mul_right _ h1, fun j hj => ?_⟩
    have e := hx j hj
    rw [hrow, ← Array.getElem?_toList]
    rw [← ht, List.getElem?_take, if_pos hj] at e
    exact e
/-- The same for a slice that lies below B, though B lies below the heap's end. -/
theorem OwnK.belowLt (h : OwnK k s w base v n f) {B : Nat} (hb : Below B w w') (hB : ∀ g cap, v = .slice (some ⟨g, 0, none⟩) n cap → g < B) : OwnK k s w' base v n f := by
  rcases h with h | ⟨g, cap, rfl, h1, h2, h3, h4, h5⟩
  · exact .inl h
  · have hgB := hB g cap rfl
    have hr := keep_row hb hgB
    exact .inr ⟨g, cap, rfl, h1, Nat.lt_of_lt_of_le h2 hb.size, (keep_fr hb hgB).trans h3, by rw [hr]; exact h4, fun j hj => by rw [hr]; exact h5 j hj⟩
theorem OwnK.lt (h : OwnK k s w base v n f) : ∀ g cap, v = .slice (some ⟨g, 0, none⟩) n cap → g < w.heap.size := by
  intro g cap hv
  rcases h with ⟨rfl, rfl⟩ | ⟨g', cap', rfl, h1, h2, -⟩
  · cases hv
  · cases hv; exact h2
theorem OwnK.below (h : OwnK k s w base v n f) {B : Nat} (hb : Below B w w') (hB : w.heap.size ≤ B) : OwnK k s w' base v n f :=
  h.belowLt hb (fun g cap hv => Nat.lt_of_lt_of_le (h.lt g cap hv) hB)
theorem OwnK.congr (h : OwnK k s w base v n f) (hf : ∀ j, j < n * s → f j = f' j) : OwnK k s w base v n f' := by
  rcases h with h | ⟨g, cap, rfl, h1, h2, h3, h4, h5⟩
  · exact .inl h
  · exact .inr ⟨g, cap, rfl, h1, h2, h3, h4, fun j hj => by rw [← hf j hj]; exact h5 j hj⟩
theorem OwnK.down {b' : Nat} (h : OwnK k s w base v n f) (hb : b' ≤ base) : OwnK k s w b' v n f := by
  rcases h with h | ⟨g, cap, rfl, h1, h2⟩
  · exact .inl h
  · exact .inr ⟨g, cap, rfl, Nat.le_trans hb h1, h2⟩
/-- A slice that is only read: it may lie anywhere in a block. -/
def SlA (k : IntKind) (s : Nat) (w : World) (v : Value) (n : Nat) (f : Nat → Int) : Prop :=
  (v = .slice none 0 0 ∧ n = 0) ∨ ∃ a cap, v = .slice (some a) n cap ∧ (0 < n → ∃ g o, a = ⟨g, o, none⟩ ∧ g < w.heap.size ∧ ∀ j, j < n * s → (rowOf w g)[o + j]? = some (.int k (f j)))
theorem OwnK.slA (h : OwnK k s w base v n f) : SlA k s w v n f := by
  rcases h with h | ⟨g, cap, rfl, h1, h2, h3, h4, h5⟩
  · exact .inl h
  · exact .inr ⟨_, cap, rfl, fun _ => ⟨g, 0, rfl, h2, fun j hj => by rw [Nat.zero_add]; exact h5 j hj⟩⟩
theorem SlA.len (h : SlA k s w v n f) : ∃ a cap, v = .slice a n cap := by
  rcases h with ⟨rfl, rfl⟩ | ⟨g, cap, rfl, _⟩ <;> exact ⟨_, _, rfl⟩
theorem SlA.pos (h : SlA k s w v n f) (hn : 0 < n) : ∃ g o cap, v = .slice (some ⟨g, o, none⟩) n cap ∧ g < w.heap.size ∧ ∀ j, j < n * s → (rowOf w g)[o + j]? = some (.int k (f j)) := by
  rcases h with ⟨rfl, rfl⟩ | ⟨a, cap, rfl, h⟩
  · omega
  · obtain ⟨g, o, rfl, h2⟩ := h hn
    exact ⟨g, o, cap, rfl, h2⟩
theorem SlA.below (h : SlA k s w v n f) {B : Nat} (hb : Below B w w') (hB : w.heap.size ≤ B) : SlA k s w' v n f := by
  rcases h with h | ⟨a, cap, rfl, h⟩
  · exact .inl h
  · refine .inr ⟨a, cap, rfl, fun hn => ?_⟩
    obtain ⟨g, o, rfl, h2, h5⟩ := h hn
    have hr := keep_row hb (show g < B by omega)
    exact ⟨g, o, rfl, Nat.lt_of_lt_of_le h2 hb.size, fun j hj => by rw [hr]; exact h5 j hj⟩
end
/-- Two slices that don't lie in one block. -/
def Apart (v v' : Value) : Prop := ∀ g cap n g' cap' n', v = .slice (some ⟨g, 0, none⟩) n cap → v' = .slice (some ⟨g', 0, none⟩) n' cap' → g ≠ g'
theorem Apart.symm {v v' : Value} (h : Apart v v') : Apart v' v := fun g cap n g' cap' n' e1 e2 e => h g' cap' n' g cap n e2 e1 e.symm
theorem OwnK.apart {k : IntKind} {s : Nat} {w w' : World} {b : Nat} {v v' : Value} {n n' cap' g' : Nat} {f : Nat → Int} (h : OwnK k s w b v n f) (hv : v' = .slice (some ⟨g', 0, none⟩) n' cap') (ha : Apart v' v) (hsz : w.heap.size ≤ w'.heap.size) (hk : ∀ q, q ≠ g' → q < w.heap.size → rowOf w' q = rowOf w q ∧ frOf w' q = frOf w q) : OwnK k s w' b v n f := by
  rcases h with h | ⟨g, cap, rfl, h1, h2, h3, h4, h5⟩
  · exact .inl h
  · have hne : g' ≠ g := ha g' cap' n' g cap n hv rfl
    obtain ⟨e1, e2⟩ := hk g (fun e => hne e.symm) h2
    exact .inr ⟨g, cap, rfl, h1, by omega, e2.trans h3, by rw [e1]; exact h4, fun j hj => by rw [e1]; exact h5 j hj⟩
theorem below_le {B B' : Nat} {w w' : World} (h : Below B w w') (hB : B' ≤ B) : Below B' w w' := ⟨h.os, h.tape, h.output, h.size, fun k hk => h.block k (by omega)⟩
end Go.Proofs.YtejnejplofddnaaGreatDoor
/- How an argument that is a slice of elements made of integers of one kind reads. No program. -/
namespace Go.Proofs.YtejnejplofddnaaGreatDoor
open Go.RowKit Go.ChangeShapes Go.WideShapes Go.ChangeAt Go.Deep
set_option linter.unusedVariables false
set_option linter.unusedSimpArgs false
set_option maxRecDepth 100000
theorem choose_nums {n : Nat} {k : IntKind} {p : Nat → Value → Prop} (h : ∀ j, j < n → ∃ z : Int, p j (.int k z) ∧ (Lit.int k z).wf = true) : ∃ f : Nat → Int, ∀ j, j < n → p j (.int k (f j)) ∧ (Lit.int k (f j)).wf = true := by
  classical
  refine ⟨fun j => if hj : j < n then Classical.choose (h j hj) else 0, fun j hj => ?_⟩
  simp only [dif_pos hj]
  exact Classical.choose_spec (h j hj)
theorem open_slA {H : Type} {enc : TypeId × Value → H} {P : Program} {w : World} {base b0 : Nat} {spare : Nat → Bool} {held : Bool} {r : Reach} {t e : TypeId} {k : IntKind} {s : Nat} {v : Value} {d : DataW H} {p : List MemPlace}
    (ht : P.underlying t = some (.slice e)) (hf : isFlat P e s (fun _ => k) = true) (hs : 0 < s) (hv : Value.okWide P w r b0 t v) (h : DataW.Trod enc P w base spare held t v d p) :
    ∃ (n : Nat) (f : Nat → Int), SlA k s w v n f ∧ n ≤ 9223372036854775807 ∧ ∀ j, j < n * s → (Lit.int k (f j)).wf = true := by
  unfold isFlat at hf
  simp only [Bool.and_eq_true, beq_iff_eq, decide_eq_true_eq] at hf
  obtain ⟨a0, len0, cap0, rfl⟩ := okWide_slice ht hv
  obtain ⟨fuel, hx⟩ := h
  rcases open_slice ht hx with ⟨h0, -⟩ | ⟨a, len, cap, m, n, D, Pl, h0, hb, hl, hm, hmm, -, hel⟩
  · simp only [Value.cells] at h0
    simp at h0
    obtain ⟨rfl, rfl, rfl⟩ := h0
    exact ⟨0, fun _ => 0, .inl ⟨rfl, rfl⟩, by omega, fun j hj => by omega⟩
  · simp only [Value.cells] at h0
    simp at h0
    obtain ⟨rfl, rfl, rfl⟩ := h0
    have hlm : len0 ≤ m := by rw [hmm]; split <;> omega
    have each : ∀ j, j < len0 * s → ∃ z : Int, w.cell? (a.add j) = some (.int k z) ∧ (Lit.int k z).wf = true := by
      intro j hj
      have hjs : j / s < len0 := (Nat.div_lt_iff_lt_mul hs).2 hj
      have hjr : j % s < s := Nat.mod_lt _ hs
      obtain ⟨cs', h1, h2⟩ := hel (j / s) (by omega)
      have hk := flat_reads 8 e _ hf.1 (by simp [hf.2]) h2
      obtain ⟨z, hz, hw⟩ := hk.2 (j % s) k (by simp [hjr])
      obtain ⟨_, _, hcell⟩ := World.cells?_some h1
      have := hcell (j % s) (by rw [hf.2]; exact hjr)
      rw [hz, add_add, hf.2, Nat.mul_comm, Nat.div_add_mod] at this
      exact ⟨z, this, hw⟩
    obtain ⟨f, hfn⟩ := choose_nums (p := fun j u => w.cell? (a.add j) = some u) each
    refine ⟨len0, f, .inr ⟨a, cap0, rfl, fun hn => ?_⟩, by unfold maxLen at hm; omega, fun j hj => (hfn j hj).2⟩
    have h00 := (hfn 0 (Nat.mul_pos hn hs)).1
    have hspot : a.spot = none := by
      have : a.add 0 = a := by unfold Addr.add; simp
      rw [this] at h00
      unfold World.cell? at h00
      split at h00
      · split at h00
        · cases h00
        · rename_i hsp; simpa using hsp
      · cases h00
    obtain ⟨g, o, sp⟩ := a
    simp only at hspot
    subst hspot
    have hadd : ∀ j, (⟨g, o, none⟩ : Addr).add j = ⟨g, o + j, none⟩ := fun j => by unfold Addr.add; split <;> simp_all
    refine ⟨g, o, rfl, ?_, fun j hj => ?_⟩
    · have := h00
      rw [hadd, Nat.add_zero] at this
      exact World.block_lt_of_cell? w ⟨g, o, none⟩ this
    · have := (hfn j hj).1
      rw [hadd, cell_row] at this
      exact this
end Go.Proofs.YtejnejplofddnaaGreatDoor
/- A row in which a sheet lies somewhere. Plain lemmas; no program. -/
namespace Go.Proofs.YtejnejplofddnaaGreatDoor
open Go.RowKit
set_option linter.unusedSimpArgs false
set_option linter.unusedVariables false
/-- A row that holds a sheet from a place on. -/
def kx (R : Array Value) (o : Nat) (c : Nat → Int) : Array Value := mk (max R.size (o + 266)) fun j => if o ≤ j ∧ j < o + 266 then .int (sk (j - o)) (c (j - o)) else R.getD j undef
def kxX (R : Array Value) (o : Nat) (c : Nat → Int) (j : Nat) : Option Value := (kx R o c)[j]?
@[go_sem] theorem kx_size (R : Array Value) (o : Nat) (c : Nat → Int) : (kx R o c).size = max R.size (o + 266) := mk_size _ _
@[go_sem ↓] theorem kx_getA (R : Array Value) (o : Nat) (c : Nat → Int) (j : Nat) : (kx R o c)[j]? = selLe o j (selLt (j - o) 266 (some (.int (sk (j - o)) (c (j - o)))) (kxX R o c j)) (kxX R o c j) := by
  unfold selLe selLt
  split
  · split
    · unfold kx
      rw [mk_get _ _ _ (by omega), if_pos (by omega)]
    · rfl
  · rfl
@[go_sem] theorem kx_off0 (o : Nat) : o - o = 0 := Nat.sub_self o
@[go_sem] theorem kx_off1 (o a : Nat) : o + a - o = a := by omega
@[go_sem] theorem kx_off2 (o a b : Nat) : o + a + b - o = a + b := by omega
@[go_sem] theorem kx_off3 (o a b d : Nat) : o + a + b + d - o = a + b + d := by omega
@[go_sem] theorem kx_off4 (o a b d e : Nat) : o + a + b + d + e - o = a + b + d + e := by omega
end Go.Proofs.YtejnejplofddnaaGreatDoor
/- Slices of elements that are rows of cells: owned and read, and how such an argument reads. No program. -/
namespace Go.Proofs.YtejnejplofddnaaGreatDoor
open Go.RowKit Go.ChangeShapes Go.WideShapes Go.ChangeAt Go.Deep
set_option linter.unusedVariables false
set_option linter.unusedSimpArgs false
set_option maxRecDepth 100000
/-- A slice of n elements of s cells each: the cells are V's; if it isn't nil its block may be written and lies at base or behind. -/
def OwnV (s : Nat) (w : World) (base : Nat) (v : Value) (n : Nat) (V : Nat → Nat → Value) : Prop :=
  (v = .slice none 0 0 ∧ n = 0) ∨ ∃ g cap, v = .slice (some ⟨g, 0, none⟩) n cap ∧ base ≤ g ∧ g < w.heap.size ∧ frOf w g = (0, 0) ∧ n * s ≤ (rowOf w g).size ∧ ∀ k, k < n → ∀ j, j < s → (rowOf w g)[k * s + j]? = some (V k j)
/-- A slice that is only read: it may lie anywhere in a block. -/
def SlV (s : Nat) (w : World) (v : Value) (n : Nat) (V : Nat → Nat → Value) : Prop :=
  (v = .slice none 0 0 ∧ n = 0) ∨ ∃ a cap, v = .slice (some a) n cap ∧ (0 < n → ∃ g o, a = ⟨g, o, none⟩ ∧ g < w.heap.size ∧ o + n * s ≤ (rowOf w g).size ∧ ∀ k, k < n → ∀ j, j < s → (rowOf w g)[o + k * s + j]? = some (V k j))
section
variable {s : Nat} {w w' : World} {base : Nat} {v : Value} {n : Nat} {V V' : Nat → Nat → Value}
theorem OwnV.len (h : OwnV s w base v n V) : ∃ a cap, v = .slice a n cap := by
  rcases h with ⟨rfl, rfl⟩ | ⟨g, cap, rfl, _⟩ <;> exact ⟨_, _, rfl⟩
theorem OwnV.pos (h : OwnV s w base v n V) (hn : 0 < n) : ∃ g cap, v = .slice (some ⟨g, 0, none⟩) n cap ∧ base ≤ g ∧ g < w.heap.size ∧ frOf w g = (0, 0) ∧ n * s ≤ (rowOf w g).size ∧ ∀ k, k < n → ∀ j, j < s → (rowOf w g)[k * s + j]? = some (V k j) := by
  rcases h with ⟨rfl, rfl⟩ | h
  · omega
  · exact h
theorem OwnV.lt (h : OwnV s w base v n V) : ∀ g cap, v = .slice (some ⟨g, 0, none⟩) n cap → g < w.heap.size := by
  intro g cap hv
  rcases h with ⟨rfl, rfl⟩ | ⟨g', cap', rfl, h1, h2, -⟩
  · cases hv
  · cases hv; exact h2
theorem OwnV.belowLt (h : OwnV s w base v n V) {B : Nat} (hb : Below B w w') (hB : ∀ g cap, v = .slice (some ⟨g, 0, none⟩) n cap → g < B) : OwnV s w' base v n V := by
  rcases h with h | ⟨g, cap, rfl, h1, h2, h3, h4, h5⟩
  · exact .inl h
  · have hgB := hB g cap rfl
    have hr := keep_row hb hgB
    exact .inr ⟨g, cap, rfl, h1, Nat.lt_of_lt_of_le h2 hb.size, (keep_fr hb hgB).trans h3, by rw [hr]; exact h4, fun k hk j hj => by rw [hr]; exact h5 k hk j hj⟩
theorem OwnV.below (h : OwnV s w base v n V) {B : Nat} (hb : Below B w w') (hB : w.heap.size ≤ B) : OwnV s w' base v n V :=
  h.belowLt hb (fun g cap hv => Nat.lt_of_lt_of_le (h.lt g cap hv) hB)
theorem OwnV.congr (h : OwnV s w base v n V) (hf : ∀ k, k < n → ∀ j, j < s → V k j = V' k j) : OwnV s w base v n V' := by
  rcases h with h | ⟨g, cap, rfl, h1, h2, h3, h4, h5⟩
  · exact .inl h
  · exact .inr ⟨g, cap, rfl, h1, h2, h3, h4, fun k hk j hj => by rw [← hf k hk j hj]; exact h5 k hk j hj⟩
theorem OwnV.down {b' : Nat} (h : OwnV s w base v n V) (hb : b' ≤ base) : OwnV s w b' v n V := by
  rcases h with h | ⟨g, cap, rfl, h1, h2⟩
  · exact .inl h
  · exact .inr ⟨g, cap, rfl, Nat.le_trans hb h1, h2⟩
theorem OwnV.of {e : TypeId} {xs : List Value} (h : w.ownsRow base e s v n xs) (hx : ∀ k, k < n → ∀ j, j < s → xs[k * s + j]? = some (V k j)) : OwnV s w base v n V := by
  obtain ⟨hl, ⟨rfl, rfl⟩ | ⟨g, cap, cur, rfl, hb, hg, h1, h2, h3, ht⟩⟩ := h
  · exact .inl ⟨rfl, rfl⟩
  · have hrow : rowOf w g = cur := by simp [rowOf, hg, objRow]
    refine .inr ⟨g, cap, rfl, hb, (Array.getElem?_eq_some_iff.1 hg).1, by simp [frOf, hg, objFr], by rw [hrow, h3]; exact Nat.mul_le_mul_right _ h1, fun k hk j hj => ?_⟩
    have e := hx k hk j hj
    have hlt : k * s + j < n * s := by
      have := Nat.mul_le_mul_right s (show k + 1 ≤ n by omega)
      rw [Nat.succ_mul] at this; omega
    rw [hrow, ← Array.getElem?_toList]
    rw [← ht, List.getElem?_take, if_pos hlt] at e
    exact e
theorem SlV.len (h : SlV s w v n V) : ∃ a cap, v = .slice a n cap := by
  rcases h with ⟨rfl, rfl⟩ | ⟨g, cap, rfl, _⟩ <;> exact ⟨_, _, rfl⟩
theorem SlV.pos (h : SlV s w v n V) (hn : 0 < n) : ∃ g o cap, v = .slice (some ⟨g, o, none⟩) n cap ∧ g < w.heap.size ∧ o + n * s ≤ (rowOf w g).size ∧ ∀ k, k < n → ∀ j, j < s → (rowOf w g)[o + k * s + j]? = some (V k j) := by
  rcases h with ⟨rfl, rfl⟩ | ⟨a, cap, rfl, h⟩
  · omega
  · obtain ⟨g, o, rfl, h2⟩ := h hn
    exact ⟨g, o, cap, rfl, h2⟩
theorem SlV.below (h : SlV s w v n V) {B : Nat} (hb : Below B w w') (hB : w.heap.size ≤ B) : SlV s w' v n V := by
  rcases h with h | ⟨a, cap, rfl, h⟩
  · exact .inl h
  · refine .inr ⟨a, cap, rfl, fun hn => ?_⟩
    obtain ⟨g, o, rfl, h2, h4, h5⟩ := h hn
    have hr := keep_row hb (show g < B by omega)
    exact ⟨g, o, rfl, Nat.lt_of_lt_of_le h2 hb.size, by rw [hr]; exact h4, fun k hk j hj => by rw [hr]; exact h5 k hk j hj⟩
end
theorem OwnV.apart {s : Nat} {w w' : World} {b : Nat} {v v' : Value} {n n' cap' g' : Nat} {V : Nat → Nat → Value} (h : OwnV s w b v n V) (hv : v' = .slice (some ⟨g', 0, none⟩) n' cap') (ha : Apart v' v) (hsz : w.heap.size ≤ w'.heap.size) (hk : ∀ q, q ≠ g' → q < w.heap.size → rowOf w' q = rowOf w q ∧ frOf w' q = frOf w q) : OwnV s w' b v n V := by
  rcases h with h | ⟨g, cap, rfl, h1, h2, h3, h4, h5⟩
  · exact .inl h
  · have hne : g' ≠ g := ha g' cap' n' g cap n hv rfl
    obtain ⟨e1, e2⟩ := hk g (fun e => hne e.symm) h2
    exact .inr ⟨g, cap, rfl, h1, by omega, e2.trans h3, by rw [e1]; exact h4, fun k hk j hj => by rw [e1]; exact h5 k hk j hj⟩
/-- An element as a part of its row. -/
theorem ext_mk {R : Array Value} {o s : Nat} {V : Nat → Value} (hs : o + s ≤ R.size) (h : ∀ j, j < s → R[o + j]? = some (V j)) : rowExt R o s = mk s V := by
  refine mk_of_size _ _ (by simp [rowExt]; omega) (fun j hj => ?_)
  unfold rowExt
  rw [Array.getElem?_extract, if_pos (by omega)]
  exact h j hj
/-- Cells laid over a row, read again. -/
theorem splice_get (cs vs : Array Value) (o j : Nat) (h : o + vs.size ≤ cs.size) : (splice cs o vs)[j]? = if o ≤ j ∧ j < o + vs.size then vs[j - o]? else cs[j]? := by
  unfold splice
  by_cases hj : j < cs.size
  · rw [mk_get _ _ _ hj]
    split
    · rw [Array.getD_eq_getD_getElem?, Array.getElem?_eq_getElem (by omega)]; rfl
    · rw [Array.getElem?_eq_getElem hj]; simp [Array.getD, hj]
  · rw [if_neg (by omega), Array.getElem?_eq_none (by rw [mk_size]; omega), Array.getElem?_eq_none (by omega)]
theorem splice_size (cs vs : Array Value) (o : Nat) : (splice cs o vs).size = cs.size := mk_size _ _
end Go.Proofs.YtejnejplofddnaaGreatDoor
/- Slices of spots: the statements' own comparing, marking and looking up. -/
namespace Go.Proofs.YtejnejplofddnaaGreatDoor
open Go.RowKit
set_option linter.unusedVariables false
set_option linter.unusedSimpArgs false
set_option maxRecDepth 100000
end Go.Proofs.YtejnejplofddnaaGreatDoor
/- Slices of spots: copied by the statements, cloned and turned round by the library. -/
namespace Go.Proofs.YtejnejplofddnaaGreatDoor
open Go.RowKit
set_option linter.unusedVariables false
set_option linter.unusedSimpArgs false
set_option maxRecDepth 100000
end Go.Proofs.YtejnejplofddnaaGreatDoor
/- A mark as the statements hand it over; copied, sized and compared by the statements. -/
namespace Go.Proofs.YtejnejplofddnaaGreatDoor
open Go.RowKit Go.ChangeShapes Go.WideShapes Go.ChangeAt Go.Deep
set_option linter.unusedVariables false
set_option linter.unusedSimpArgs false
set_option maxRecDepth 100000
@[go_sem] theorem oneCell_intM (k : IntKind) (n : Int) : (Value.int k n).oneCell' = true := rfl
@[go_sem] theorem oneCell_slM (a : Option Addr) (n c : Nat) : (Value.slice a n c).oneCell' = true := rfl
theorem OwnK.other {k : IntKind} {s : Nat} {w w' : World} {b : Nat} {v : Value} {n : Nat} {f : Nat → Int} (h : OwnK k s w b v n f) (hs : w.heap.size ≤ w'.heap.size) (hr : ∀ g, b ≤ g → g < w.heap.size → rowOf w' g = rowOf w g ∧ frOf w' g = frOf w g) : OwnK k s w' b v n f := by
  rcases h with h | ⟨g, cap, rfl, h1, h2, h3, h4, h5⟩
  · exact .inl h
  · obtain ⟨q1, q2⟩ := hr g h1 h2
    exact .inr ⟨g, cap, rfl, h1, by omega, by rw [q2]; exact h3, by rw [q1]; exact h4, by rw [q1]; exact h5⟩
theorem size_imark : (Tryz.prog.info? 51).map (·.size) = some 2 := by kernel_rfl
theorem size_lmark : (Tryz.prog.info? 119).map (·.size) = some 2 := by kernel_rfl
@[go_sem ↓] theorem toLoad_imark (a : Addr) : loadVar 51 a = loadR 51 a := rfl
@[go_sem ↓] theorem toStore_imark (a : Addr) (v : Value) : storeVar 51 a v = storeR 51 a v := rfl
@[go_sem] theorem load_imark (w : World) (b o : Nat) : (loadR 51 ⟨b, o, none⟩).run Tryz.prog w = loaded Tryz.prog 51 2 w b o := run_load_rowA (P := Tryz.prog) 51 2 _ (by omega) Tryz.underlying51 rfl size_imark w b o
@[go_sem] theorem store_imark (w : World) (b o : Nat) (vs : Array Value) : (storeR 51 ⟨b, o, none⟩ (.agg vs)).run Tryz.prog w = storedRow Tryz.prog 51 2 w b o vs := run_store_rowA (P := Tryz.prog) 51 2 (by omega) size_imark w b o vs
@[go_sem ↓] theorem toLoad_lmark (a : Addr) : loadVar 119 a = loadR 119 a := rfl
@[go_sem] theorem load_lmark (w : World) (b o : Nat) : (loadR 119 ⟨b, o, none⟩).run Tryz.prog w = loaded Tryz.prog 119 2 w b o := run_load_rowA (P := Tryz.prog) 119 2 _ (by omega) Tryz.underlying119 rfl size_lmark w b o
@[go_sem ↓] theorem zero_imark (w : World) : (zeroValue 51).run Tryz.prog w = .ok (.agg #[.int .i8 0, .slice none 0 0]) w := by kernel_rfl
end Go.Proofs.YtejnejplofddnaaGreatDoor
/- Slices of marks: how such an argument reads; sized, copied and compared by the statements. -/
namespace Go.Proofs.YtejnejplofddnaaGreatDoor
open Go.RowKit Go.ChangeShapes Go.WideShapes Go.ChangeAt Go.Deep
set_option linter.unusedVariables false
set_option linter.unusedSimpArgs false
set_option maxRecDepth 100000
/-- A mark: its colour, its cells' slice, how many and where. -/
structure Mk where
  col : Int
  v : Value
  n : Nat
  f : Nat → Int
def mkV (F : Nat → Mk) (k j : Nat) : Value := if j = 0 then .int .i8 (F k).col else (F k).v
def SlM (w : World) (v : Value) (n : Nat) (F : Nat → Mk) : Prop := SlV 2 w v n (mkV F) ∧ ∀ k, k < n → SlA .i8 2 w (F k).v (F k).n (F k).f
def OwnM (w : World) (b : Nat) (v : Value) (n : Nat) (F : Nat → Mk) : Prop := OwnV 2 w b v n (mkV F) ∧ ∀ k, k < n → OwnK .i8 2 w b (F k).v (F k).n (F k).f
def MkIn (x : Mk) : Prop := (-128 ≤ x.col ∧ x.col ≤ 127) ∧ x.n ≤ 9223372036854775807 ∧ ∀ j, j < x.n * 2 → (Lit.int .i8 (x.f j)).wf = true
/-- The places met so far. -/
def snB (f : Nat → Int) (k q : Nat) : Bool := (List.range k).any fun j => (f (j * 2 + 1)).toNat * 8 + (f (j * 2)).toNat == q
theorem snB_zero (f : Nat → Int) (q : Nat) : snB f 0 q = false := rfl
theorem snB_next (f : Nat → Int) (k q : Nat) : snB f (k + 1) q = (snB f k q || ((f (k * 2 + 1)).toNat * 8 + (f (k * 2)).toNat == q)) := by
  unfold snB
  rw [List.range_succ, List.any_append]
  simp
theorem snB_hit {f : Nat → Int} {k q : Nat} (h : snB f k q = true) : ∃ j, j < k ∧ (f (j * 2 + 1)).toNat * 8 + (f (j * 2)).toNat = q := by
  unfold snB at h
  rw [List.any_eq_true] at h
  obtain ⟨j, hj, h⟩ := h
  exact ⟨j, List.mem_range.1 hj, by simpa using h⟩
theorem snB_miss {f : Nat → Int} {k q : Nat} (h : snB f k q = false) : ∀ j, j < k → (f (j * 2 + 1)).toNat * 8 + (f (j * 2)).toNat ≠ q := fun j hj e => by
  unfold snB at h
  rw [List.any_eq_false] at h
  exact h j (List.mem_range.2 hj) (by simpa using e)
theorem SlM.below {w w' : World} {v : Value} {n : Nat} {F : Nat → Mk} (h : SlM w v n F) {B : Nat} (hb : Below B w w') (hB : w.heap.size ≤ B) : SlM w' v n F := ⟨h.1.below hb hB, fun k hk => (h.2 k hk).below hb hB⟩
theorem OwnM.below {w w' : World} {b : Nat} {v : Value} {n : Nat} {F : Nat → Mk} (h : OwnM w b v n F) {B : Nat} (hb : Below B w w') (hB : w.heap.size ≤ B) : OwnM w' b v n F := ⟨h.1.below hb hB, fun k hk => (h.2 k hk).below hb hB⟩
theorem mk_read {R : Array Value} {o k : Nat} {F : Nat → Mk} (h : ∀ j, j < 2 → R[o + k * 2 + j]? = some (mkV F k j)) : R[o + k * 2]? = some (.int .i8 (F k).col) ∧ R[o + k * 2 + 1]? = some (F k).v := ⟨h 0 (by omega), h 1 (by omega)⟩
theorem mk_ext2 {R : Array Value} {o k : Nat} {F : Nat → Mk} (h : ∀ j, j < 2 → R[o + k * 2 + j]? = some (mkV F k j)) : rowExt R (o + k * 2) 2 = #[.int .i8 (F k).col, (F k).v] := by
  obtain ⟨h0, h1⟩ := mk_read h
  have hs : o + k * 2 + 2 ≤ R.size := by have := (Array.getElem?_eq_some_iff.1 h1).1; omega
  rw [ext_mk (V := mkV F k) hs h]
  rfl
theorem mark_info : ∃ i z, Tryz.prog.info? 51 = some i ∧ i.zero = some z ∧ i.size = 2 ∧ i.bytes = 32 ∧ z.cells.size = 2 := by
  have h : (match Tryz.prog.info? 51 with | some i => (match i.zero with | some z => i.size == 2 && i.bytes == 32 && z.cells.size == 2 | none => false) | none => false) = true := by kernel_rfl
  split at h
  · rename_i i hi
    split at h
    · rename_i z hz
      simp only [Bool.and_eq_true, beq_iff_eq] at h
      exact ⟨i, z, hi, hz, h.1.1, h.1.2, h.2⟩
    · cases h
  · cases h
end Go.Proofs.YtejnejplofddnaaGreatDoor
