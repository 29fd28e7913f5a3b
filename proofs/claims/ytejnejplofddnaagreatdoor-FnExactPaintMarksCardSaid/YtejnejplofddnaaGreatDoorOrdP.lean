/- Lists of numbers that are given back, and their appends; where a number stands in a list. No program. -/
import Derived.Test.YtejnejplofddnaaGreatDoorPntS
import Derived.Lib.AppendZeros
namespace Go.Proofs.YtejnejplofddnaaGreatDoor
open Go.RowKit
set_option linter.unusedVariables false
set_option linter.unusedSimpArgs false
set_option maxRecDepth 100000
/-- Where a number stands in a list; -1 if nowhere. -/
def ixL : List Nat → Nat → Int
  | [], _ => -1
  | x :: r, i => if x = i then 0 else if ixL r i < 0 then -1 else ixL r i + 1
theorem ixL_hit {l : List Nat} {i : Nat} : ∀ {k : Nat}, l[k]? = some i → (∀ j, j < k → l[j]? ≠ some i) → ixL l i = (k : Int) := by
  induction l with
  | nil => intro k h _; simp at h
  | cons x r ih =>
    intro k h hno
    unfold ixL
    match k, h, hno with
    | 0, h, _ => simp at h; rw [if_pos h]; rfl
    | k + 1, h, hno =>
      have h0 : ¬ x = i := fun e => hno 0 (by omega) (by simp [e])
      have := ih (k := k) (by simpa using h) (fun j hj => by have := hno (j + 1) (by omega); simpa using this)
      rw [if_neg h0, this, if_neg (by omega)]
      omega
theorem ixL_miss {l : List Nat} {i : Nat} : (∀ j, j < l.length → l[j]? ≠ some i) → ixL l i = -1 := by
  induction l with
  | nil => intro _; rfl
  | cons x r ih =>
    intro hno
    unfold ixL
    have h0 : ¬ x = i := fun e => hno 0 (by simp) (by simp [e])
    rw [if_neg h0, ih (fun j hj => by have := hno (j + 1) (by simp; omega); simpa using this), if_pos (by omega)]
theorem ixL_lt (l : List Nat) (i : Nat) : -1 ≤ ixL l i ∧ ixL l i < l.length ∧ (i ∈ l ↔ 0 ≤ ixL l i) := by
  induction l with
  | nil => simp [ixL]
  | cons x r ih =>
    unfold ixL
    obtain ⟨h1, h2, h3⟩ := ih
    by_cases h : x = i
    · rw [if_pos h]
      refine ⟨by omega, by first | (simp; done) | (simp; omega), by simp [h]⟩
    · rw [if_neg h]
      have hm : i ∈ x :: r ↔ i ∈ r := by simp [Ne.symm (show x ≠ i from h)]
      rw [hm, h3]
      split <;> refine ⟨by omega, by first | (simp; done) | (simp; omega), by omega⟩
/-- Lists, each beside the value that holds it. -/
abbrev Od := List (Value × List Nat)
def odV (D : Od) : List Value := D.map Prod.fst
def odL (D : Od) : List (List Nat) := D.map Prod.snd
def OdW (w : World) (B : Nat) (D : Od) : Prop := ∀ q ∈ D, OwnK .i64 1 w B q.1 q.2.length (nl q.2)
theorem odV_app (D E : Od) : odV (D ++ E) = odV D ++ odV E := by unfold odV; rw [List.map_append]
theorem odL_app (D E : Od) : odL (D ++ E) = odL D ++ odL E := by unfold odL; rw [List.map_append]
theorem od_len {w : World} {base : Nat} {e : TypeId} {v : Value} {n : Nat} {D : Od} (h : w.ownsRow base e 1 v n (odV D)) : D.length = n := by
  have := h.1
  unfold odV at this
  rw [List.length_map] at this
  omega
theorem OdW.below {w w' : World} {B : Nat} {D : Od} (h : OdW w B D) (hb : Below w.heap.size w w') : OdW w' B D := fun q hq => (h q hq).below hb (Nat.le_refl _)
theorem OdW.app {w : World} {B : Nat} {D E : Od} (h : OdW w B D) (h' : OdW w B E) : OdW w B (D ++ E) := fun q hq => by
  rcases List.mem_append.1 hq with hq | hq
  · exact h q hq
  · exact h' q hq
theorem OwnK.grown {k : IntKind} {w w2 : World} {b : Nat} {v : Value} {n g : Nat} {f : Nat → Int} (h : OwnK k 1 w b v n f) (h0 : 0 < n) (hg : w.grownBy w2 (some g)) (hno : ∀ z, (rowOf w g)[0]? ≠ some (.int k z)) : OwnK k 1 w2 b v n f := by
  obtain ⟨a, cap, rfl, h1, h2, h3, h4, h5⟩ := h.pos h0
  have hne : a ≠ g := fun e => hno (f 0) (by rw [← e]; exact h5 0 (by omega))
  have hbl := hg.block a h2 (fun e => hne (Option.some.inj e))
  have hr : rowOf w2 a = rowOf w a := by unfold rowOf; rw [hbl]
  have hf : frOf w2 a = frOf w a := by unfold frOf; rw [hbl]
  exact .inr ⟨a, cap, rfl, h1, Nat.lt_of_lt_of_le h2 hg.size, hf.trans h3, by rw [hr]; exact h4, fun j hj => by rw [hr]; exact h5 j hj⟩
theorem OdW.grown {w w2 : World} {B g : Nat} {D : Od} (h : OdW w B D) (hl : ∀ q ∈ D, 0 < q.2.length) (hg : w.grownBy w2 (some g)) (hno : ∀ z, (rowOf w g)[0]? ≠ some (.int .i64 z)) : OdW w2 B D := fun q hq => (h q hq).grown (hl q hq) hg hno
theorem od_noint {w : World} {base B : Nat} {e : TypeId} {g n cap : Nat} {D : Od} (h : w.ownsRow base e 1 (.slice (some ⟨g, 0, none⟩) n cap) n (odV D)) (hD : OdW w B D) (h0 : n = 0 → cap = 0) : ∀ z, (rowOf w g)[0]? ≠ some (.int .i64 z) := by
  have hl := od_len h
  obtain ⟨-, ⟨hv, -⟩ | ⟨g', cap', cur, hv, hb, hg, h1, h2, h3, ht⟩⟩ := h
  · cases hv
  · simp only [Value.slice.injEq, Option.some.injEq, Addr.mk.injEq] at hv
    obtain ⟨⟨rfl, -, -⟩, -, rfl⟩ := hv
    have hrow : rowOf w g = cur := by simp [rowOf, hg, objRow]
    rw [hrow]
    intro z hz
    match D, hl, hD, ht with
    | [], hl, _, _ =>
      simp at hl
      have hc := h0 hl.symm
      have : cur.size = 0 := by omega
      rw [Array.getElem?_eq_none (by omega)] at hz
      cases hz
    | d :: D', hl, hD, ht =>
      have hd := hD d (by simp)
      obtain ⟨a, c, hd⟩ := hd.len
      have hn : 0 < n := by simp at hl; omega
      have e0 := congrArg (fun q => q[0]?) ht
      simp only [List.getElem?_take, odV, List.map_cons, List.getElem?_cons_zero] at e0
      rw [if_pos (by omega), Array.getElem?_toList, hz, hd] at e0
      cases e0
theorem od_one {w : World} {B : Nat} {D : Od} (h : OdW w B D) : ∀ u ∈ odV D, u.oneCell' = true := by
  intro u hu
  obtain ⟨q, hq, rfl⟩ := List.mem_map.1 hu
  have hd := h q hq
  obtain ⟨a, c, hd⟩ := hd.len
  rw [hd]; rfl
theorem append_zero {P : Program} (t ty e : TypeId) (i : TypeInfo) (ht : P.underlying t = some (.slice e)) (hi : P.info? e = some i) (b a : Option Addr) (n c c' : Nat) (hn : n ≤ c) (w : World) :
    (Builtin.append_ #[t, t] ty #[.slice b n c, .slice a 0 c']).run P w = .ok (.slice b n c) w := by
  cases b <;> cases a <;> simp [Builtin.append_, run_underlying ht, sizeOf, typeInfo, hi, Builtin.lenOf, Builtin.firstCells, loadCells, loadCellsFrom, storeCells, hn]
/-- Lists put behind lists. -/
theorem append_od {P : Program} (w : World) (base base' B : Nat) (t ty e : TypeId) (i : TypeInfo) (z : Value) (bytes : Nat) (ht : P.underlying t = some (.slice e)) (hi : P.info? e = some i) (hz : i.zero = some z) (hs : i.size = 1) (hby : i.bytes = bytes) (hzs : z.cells.size = 1) (hB : bytes ≤ 24)
    {g n cap m : Nat} {D E : Od} {v' : Value} (hown : w.ownsRow base e 1 (.slice (some ⟨g, 0, none⟩) n cap) n (odV D)) (h0 : n = 0 → cap = 0) (hD : OdW w B D) (hE : OdW w B E) (hl : ∀ q ∈ D, 0 < q.2.length) (hl' : ∀ q ∈ E, 0 < q.2.length) (hrec : w.ownsRow base' e 1 v' m (odV E)) (h63 : n + m ≤ 1048576) (hbase : base ≤ w.heap.size) :
    ∃ g2 c2 w2, (Builtin.append_ #[t, t] ty #[.slice (some ⟨g, 0, none⟩) n cap, v']).run P w = .ok (.slice (some ⟨g2, 0, none⟩) (n + m) c2) w2 ∧ w2.ownsRow base e 1 (.slice (some ⟨g2, 0, none⟩) (n + m) c2) (n + m) (odV (D ++ E)) ∧ OdW w2 B (D ++ E) ∧ (n + m = 0 → c2 = 0) ∧ base ≤ g2 ∧ (∀ N W, Below N W w → N ≤ base → Below N W w2) := by
  rcases Nat.eq_zero_or_pos m with hm | hm
  · subst hm
    have hE0 : E = [] := List.eq_nil_of_length_eq_zero (od_len hrec)
    subst hE0
    have hv : ∃ a c, v' = .slice a 0 c := by
      rcases hrec.2 with ⟨rfl, -⟩ | ⟨a, c, cur, rfl, -⟩
      · exact ⟨_, _, rfl⟩
      · exact ⟨_, _, rfl⟩
    obtain ⟨a, c, rfl⟩ := hv
    have hnc : n ≤ cap := by
      rcases hown.2 with ⟨hv, -⟩ | ⟨g', cap', cur, hv, -, -, h1, -⟩
      · cases hv
      · simp only [Value.slice.injEq] at hv
        omega
    refine ⟨g, cap, w, append_zero t ty e i ht hi _ _ _ _ _ hnc w, by rw [List.append_nil]; exact hown, by rw [List.append_nil]; exact hD, fun h => h0 (by omega), owns_base hown g rfl, fun N W h _ => h⟩
  · have hv : ∃ a c, v' = .slice (some ⟨a, 0, none⟩) m c := by
      rcases hrec.2 with ⟨rfl, h⟩ | ⟨a, c, cur, rfl, -⟩
      · omega
      · exact ⟨_, _, rfl⟩
    obtain ⟨a, c, rfl⟩ := hv
    obtain ⟨v2, w2, hr, h2, h3, h4⟩ := run_append_own (P := P) w base t ty e i z 1 bytes ht hi hz hs hby hzs (by decide) _ n (odV D) hown ⟨a, 0, none⟩ m c (odV E) (by rw [hrec.1]) (hrec.cells (g := a) rfl) (od_one hE) (by unfold maxLen; omega) (Nat.le_trans (Nat.mul_le_mul h63 hB) (by decide)) hbase
    have hno := od_noint hown hD h0
    have hv2 : ∃ g2 c2, v2 = .slice (some ⟨g2, 0, none⟩) (n + m) c2 := by
      rcases h2.2 with ⟨rfl, h⟩ | ⟨a, c, cur, rfl, -⟩
      · omega
      · exact ⟨_, _, rfl⟩
    obtain ⟨g2, c2, rfl⟩ := hv2
    have h3' : w.grownBy w2 (some g) := h3
    refine ⟨g2, c2, w2, hr, by rw [odV_app]; exact h2, (hD.grown hl h3' hno).app (hE.grown hl' h3' hno), fun h => by omega, owns_base h2 g2 rfl, fun N W h hN => below_grown h h3 (fun k hk => Nat.le_trans hN (owns_base hown k hk)) (Nat.le_trans hN hbase)⟩
/-- Two texts' lists are the same. -/
def eqL (A B : List (List UInt8)) : Bool := A == B
theorem eqL_len {A B : List (List UInt8)} (h : A.length ≠ B.length) : eqL A B = false := by
  unfold eqL
  rw [beq_eq_false_iff_ne]
  intro e
  exact h (by rw [e])
theorem eqL_all {A B : List (List UInt8)} (h : A.length = B.length) (ha : ∀ j a b, j < A.length → A[j]? = some a → B[j]? = some b → a = b) : eqL A B = true := by
  unfold eqL
  rw [beq_iff_eq]
  refine List.ext_getElem h (fun j h1 h2 => ?_)
  exact ha j _ _ h1 (List.getElem?_eq_getElem h1) (List.getElem?_eq_getElem h2)
theorem eqL_no {A B : List (List UInt8)} {j : Nat} {a b : List UInt8} (ha : A[j]? = some a) (hb : B[j]? = some b) (hne : a ≠ b) : eqL A B = false := by
  unfold eqL
  rw [beq_eq_false_iff_ne]
  intro e
  rw [e, hb] at ha
  exact hne (Option.some.inj ha).symm
end Go.Proofs.YtejnejplofddnaaGreatDoor
