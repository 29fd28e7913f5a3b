/- Several texts in one: OrdP StrA NumS. -/
import Derived.Test.YtejnejplofddnaaGreatDoorPntS
import Derived.Lib.AppendZeros
import Derived.Test.YtejnejplofddnaaGreatDoorGqC
import Derived.Test.YtejnejplofddnaaGreatDoorGqA
import Derived.Deep.Strs
import Derived.BigQuiet
import Derived.Deep.QuietTactic
import Derived.Lib.SliceRun
/- Lists of numbers that are given back, and their appends; where a number stands in a list. No program. -/
namespace Go.Proofs.YtejnejplofddnaaGreatDoor
open Go.RowKit
set_option linter.unusedVariables false
set_option linter.unusedSimpArgs false
set_option maxRecDepth 100000
/-- Where a number stands in a list; -1 if nowhere. -/
def ixL : List Nat → Nat → Int
  | [], _ => -1
  | x :: r, i => if x = i then 0 else if ixL r i < 0 then -1 else ixL r i + 1
theorem ixL_hit {l : List Nat} {i : Nat} : ∀ {k : Nat}, l[k]? = some i → (∀ j, j < k → l[j]? ≠ some i) → ixL l i = (k : Int) := by
  induction l with
  | nil => intro k h _; simp at h
  | cons x r ih =>
    intro k h hno
    unfold ixL
    match k, h, hno with
    | 0, h, _ => simp at h; rw [if_pos h]; rfl
    | k + 1, h, hno =>
      have h0 : ¬ x = i := fun e => hno 0 (by omega) (by simp [e])
      have := ih (k := k) (by simpa using h) (fun j hj => by have := hno (j + 1) (by omega); simpa using this)
      rw [if_neg h0, this, if_neg (by omega)]
      omega
theorem ixL_miss {l : List Nat} {i : Nat} : (∀ j, j < l.length → l[j]? ≠ some i) → ixL l i = -1 := by
  induction l with
  | nil => intro _; rfl
  | cons x r ih =>
    intro hno
    unfold ixL
    have h0 : ¬ x = i := fun e => hno 0 (by simp) (by simp [e])
    rw [if_neg h0, ih (fun j hj => by have := hno (j + 1) (by simp; omega); simpa using this), if_pos (by omega)]
theorem ixL_lt (l : List Nat) (i : Nat) : -1 ≤ ixL l i ∧ ixL l i < l.length ∧ (i ∈ l ↔ 0 ≤ ixL l i) := by
  induction l with
  | nil => simp [ixL]
  | cons x r ih =>
    unfold ixL
    obtain ⟨h1, h2, h3⟩ := ih
    by_cases h : x = i
    · rw [if_pos h]
      refine ⟨by omega, by first | (simp; done) | (simp; omega), by simp [h]⟩
    · rw [if_neg h]
      have hm : i ∈ x :: r ↔ i ∈ r := by simp [Ne.symm (show x ≠ i from h)]
      rw [hm, h3]
      split <;> refine ⟨by omega, by first | (simp; done) | (simp; omega), by omega⟩
/-- Lists, each beside the value that holds it. -/
abbrev Od := List (Value × List Nat)
def odV (D : Od) : List Value := D.map Prod.fst
def odL (D : Od) : List (List Nat) := D.map Prod.snd
def OdW (w : World) (B : Nat) (D : Od) : Prop := ∀ q ∈ D, OwnK .i64 1 w B q.1 q.2.length (nl q.2)
theorem odV_app (D E : Od) : odV (D ++ E) = odV D ++ odV E := by unfold odV; rw [List.map_append]
theorem odL_app (D E : Od) : odL (D ++ E) = odL D ++ odL E := by unfold odL; rw [List.map_append]
theorem od_len {w : World} {base : Nat} {e : TypeId} {v : Value} {n : Nat} {D : Od} (h : w.ownsRow base e 1 v n (odV D)) : D.length = n := by
  have := h.1
  unfold odV at this
  rw [List.length_map] at this
  omega
theorem OdW.below {w w' : World} {B : Nat} {D : Od} (h : OdW w B D) (hb : Below w.heap.size w w') : OdW w' B D := fun q hq => (h q hq).below hb (Nat.le_refl _)
theorem OdW.app {w : World} {B : Nat} {D E : Od} (h : OdW w B D) (h' : OdW w B E) : OdW w B (D ++ E) := fun q hq => by
  rcases List.mem_append.1 hq with hq | hq
  · exact h q hq
  · exact h' q hq
theorem OwnK.grown {k : IntKind} {w w2 : World} {b : Nat} {v : Value} {n g : Nat} {f : Nat → Int} (h : OwnK k 1 w b v n f) (h0 : 0 < n) (hg : w.grownBy w2 (some g)) (hno : ∀ z, (rowOf w g)[0]? ≠ some (.int k z)) : OwnK k 1 w2 b v n f := by
  obtain ⟨a, cap, rfl, h1, h2, h3, h4, h5⟩ := h.pos h0
  have hne : a ≠ g := fun e => hno (f 0) (by rw [← e]; exact h5 0 (by omega))
  have hbl := hg.block a h2 (fun e => hne (Option.some.inj e))
  have hr : rowOf w2 a = rowOf w a := by unfold rowOf; rw [hbl]
  have hf : frOf w2 a = frOf w a := by unfold frOf; rw [hbl]
  exact .inr ⟨a, cap, rfl, h1, Nat.lt_of_lt_of_le h2 hg.size, hf.trans h3, by rw [hr]; exact h4, fun j hj => by rw [hr]; exact h5 j hj⟩
theorem OdW.grown {w w2 : World} {B g : Nat} {D : Od} (h : OdW w B D) (hl : ∀ q ∈ D, 0 < q.2.length) (hg : w.grownBy w2 (some g)) (hno : ∀ z, (rowOf w g)[0]? ≠ some (.int .i64 z)) : OdW w2 B D := fun q hq => (h q hq).grown (hl q hq) hg hno
theorem od_noint {w : World} {base B : Nat} {e : TypeId} {g n cap : Nat} {D : Od} (h : w.ownsRow base e 1 (.slice (some ⟨g, 0, none⟩) n cap) n (odV D)) (hD : OdW w B D) (h0 : n = 0 → cap = 0) : ∀ z, (rowOf w g)[0]? ≠ some (.int .i64 z) := by
  have hl := od_len h
  obtain ⟨-, ⟨hv, -⟩ | ⟨g', cap', cur, hv, hb, hg, h1, h2, h3, ht⟩⟩ := h
  · cases hv
  · simp only [Value.slice.injEq, Option.some.injEq, Addr.mk.injEq] at hv
    obtain ⟨⟨rfl, -, -⟩, -, rfl⟩ := hv
    have hrow : rowOf w g = cur := by simp [rowOf, hg, objRow]
    rw [hrow]
    intro z hz
    match D, hl, hD, ht with
    | [], hl, _, _ =>
      simp at hl
      have hc := h0 hl.symm
      have : cur.size = 0 := by omega
      rw [Array.getElem?_eq_none (by omega)] at hz
      cases hz
    | d :: D', hl, hD, ht =>
      have hd := hD d (by simp)
      obtain ⟨a, c, hd⟩ := hd.len
      have hn : 0 < n := by simp at hl; omega
      have e0 := congrArg (fun q => q[0]?) ht
      simp only [List.getElem?_take, odV, List.map_cons, List.getElem?_cons_zero] at e0
      rw [if_pos (by omega), Array.getElem?_toList, hz, hd] at e0
      cases e0
theorem od_one {w : World} {B : Nat} {D : Od} (h : OdW w B D) : ∀ u ∈ odV D, u.oneCell' = true := by
  intro u hu
  obtain ⟨q, hq, rfl⟩ := List.mem_map.1 hu
  have hd := h q hq
  obtain ⟨a, c, hd⟩ := hd.len
  rw [hd]; rfl
theorem append_zero {P : Program} (t ty e : TypeId) (i : TypeInfo) (ht : P.underlying t = some (.slice e)) (hi : P.info? e = some i) (b a : Option Addr) (n c c' : Nat) (hn : n ≤ c) (w : World) :
    (Builtin.append_ #[t, t] ty #[.slice b n c, .slice a 0 c']).run P w = .ok (.slice b n c) w := by
  cases b <;> cases a <;> simp [Builtin.append_, run_underlying ht, sizeOf, typeInfo, hi, Builtin.lenOf, Builtin.firstCells, loadCells, loadCellsFrom, storeCells, hn]
/-- Lists put behind lists. -/
theorem append_od {P : Program} (w : World) (base base' B : Nat) (t ty e : TypeId) (i : TypeInfo) (z : Value) (bytes : Nat) (ht : P.underlying t = some (.slice e)) (hi : P.info? e = some i) (hz : i.zero = some z) (hs : i.size = 1) (hby : i.bytes = bytes) (hzs : z.cells.size = 1) (hB : bytes ≤ 24)
    {g n cap m : Nat} {D E : Od} {v' : Value} (hown : w.ownsRow base e 1 (.slice (some ⟨g, 0, none⟩) n cap) n (odV D)) (h0 : n = 0 → cap = 0) (hD : OdW w B D) (hE : OdW w B E) (hl : ∀ q ∈ D, 0 < q.2.length) (hl' : ∀ q ∈ E, 0 < q.2.length) (hrec : w.ownsRow base' e 1 v' m (odV E)) (h63 : n + m ≤ 1048576) (hbase : base ≤ w.heap.size) :
    ∃ g2 c2 w2, (Builtin.append_ #[t, t] ty #[.slice (some ⟨g, 0, none⟩) n cap, v']).run P w = .ok (.slice (some ⟨g2, 0, none⟩) (n + m) c2) w2 ∧ w2.ownsRow base e 1 (.slice (some ⟨g2, 0, none⟩) (n + m) c2) (n + m) (odV (D ++ E)) ∧ OdW w2 B (D ++ E) ∧ (n + m = 0 → c2 = 0) ∧ base ≤ g2 ∧ (∀ N W, Below N W w → N ≤ base → Below N W w2) := by
  rcases Nat.eq_zero_or_pos m with hm | hm
  · subst hm
    have hE0 : E = [] := List.eq_nil_of_length_eq_zero (od_len hrec)
    subst hE0
    have hv : ∃ a c, v' = .slice a 0 c := by
      rcases hrec.2 with ⟨rfl, -⟩ | ⟨a, c, cur, rfl, -⟩
      · exact ⟨_, _, rfl⟩
      · exact ⟨_, _, rfl⟩
    obtain ⟨a, c, rfl⟩ := hv
    have hnc : n ≤ cap := by
      rcases hown.2 with ⟨hv, -⟩ | ⟨g', cap', cur, hv, -, -, h1, -⟩
      · cases hv
      · simp only [Value.slice.injEq] at hv
        omega
    refine ⟨g, cap, w, append_zero t ty e i ht hi _ _ _ _ _ hnc w, by rw [List.append_nil]; exact hown, by rw [List.append_nil]; exact hD, fun h => h0 (by omega), owns_base hown g rfl, fun N W h _ => h⟩
  · have hv : ∃ a c, v' = .slice (some ⟨a, 0, none⟩) m c := by
      rcases hrec.2 with ⟨rfl, h⟩ | ⟨a, c, cur, rfl, -⟩
      · omega
      · exact ⟨_, _, rfl⟩
    obtain ⟨a, c, rfl⟩ := hv
    obtain ⟨v2, w2, hr, h2, h3, h4⟩ := run_append_own (P := P) w base t ty e i z 1 bytes ht hi hz hs hby hzs (by decide) _ n (odV D) hown ⟨a, 0, none⟩ m c (odV E) (by rw [hrec.1]) (hrec.cells (g := a) rfl) (od_one hE) (by unfold maxLen; omega) (Nat.le_trans (Nat.mul_le_mul h63 hB) (by decide)) hbase
    have hno := od_noint hown hD h0
    have hv2 : ∃ g2 c2, v2 = .slice (some ⟨g2, 0, none⟩) (n + m) c2 := by
      rcases h2.2 with ⟨rfl, h⟩ | ⟨a, c, cur, rfl, -⟩
      · omega
      · exact ⟨_, _, rfl⟩
    obtain ⟨g2, c2, rfl⟩ := hv2
    have h3' : w.grownBy w2 (some g) := h3
    refine ⟨g2, c2, w2, hr, by rw [odV_app]; exact h2, (hD.grown hl h3' hno).app (hE.grown hl' h3' hno), fun h => by omega, owns_base h2 g2 rfl, fun N W h hN => below_grown h h3 (fun k hk => Nat.le_trans hN (owns_base hown k hk)) (Nat.le_trans hN hbase)⟩
/-- Two texts' lists are the same. -/
def eqL (A B : List (List UInt8)) : Bool := A == B
theorem eqL_len {A B : List (List UInt8)} (h : A.length ≠ B.length) : eqL A B = false := by
  unfold eqL
  rw [beq_eq_false_iff_ne]
  intro e
  exact h (by rw [e])
theorem eqL_all {A B : List (List UInt8)} (h : A.length = B.length) (ha : ∀ j a b, j < A.length → A[j]? = some a → B[j]? = some b → a = b) : eqL A B = true := by
  unfold eqL
  rw [beq_iff_eq]
  refine List.ext_getElem h (fun j h1 h2 => ?_)
  exact ha j _ _ h1 (List.getElem?_eq_getElem h1) (List.getElem?_eq_getElem h2)
theorem eqL_no {A B : List (List UInt8)} {j : Nat} {a b : List UInt8} (ha : A[j]? = some a) (hb : B[j]? = some b) (hne : a ≠ b) : eqL A B = false := by
  unfold eqL
  rw [beq_eq_false_iff_ne]
  intro e
  rw [e, hb] at ha
  exact hne (Option.some.inj ha).symm
end Go.Proofs.YtejnejplofddnaaGreatDoor
/- Slices of strings that are handed in. -/
namespace Go.Proofs.YtejnejplofddnaaGreatDoor
open Go.RowKit Go.ChangeShapes Go.WideShapes Go.ChangeAt Go.Deep
set_option linter.unusedVariables false
set_option linter.unusedSimpArgs false
set_option maxRecDepth 100000
def stV (L : List (List UInt8)) : Nat → Nat → Value := fun k _ => .string (tx (L.getD k []))
abbrev OwnT (w : World) (b : Nat) (v : Value) (L : List (List UInt8)) : Prop := OwnV 1 w b v L.length (stV L)
abbrev SlT (w : World) (v : Value) (L : List (List UInt8)) : Prop := SlV 1 w v L.length (stV L)
theorem stV_at {L : List (List UInt8)} {k : Nat} {x : List UInt8} (h : L[k]? = some x) (j : Nat) : stV L k j = .string (tx x) := by unfold stV; rw [List.getD_eq_getElem?_getD, h]; rfl
theorem OwnT.of {w : World} {b : Nat} {e : TypeId} {v : Value} {L : List (List UInt8)} (h : w.ownsRow b e 1 v L.length (strV L)) : OwnT w b v L :=
  OwnV.of h (fun k hk j hj => by
    have : j = 0 := by omega
    subst this
    rw [stV_at (List.getElem?_eq_getElem hk)]
    unfold strV
    rw [Nat.mul_one, Nat.add_zero, List.getElem?_map, List.getElem?_eq_getElem hk]; rfl)
theorem OwnT.at {w : World} {b : Nat} {v : Value} {L : List (List UInt8)} (h : OwnT w b v L) (h0 : 0 < L.length) : ∃ g cap, v = .slice (some ⟨g, 0, none⟩) L.length cap ∧ g < w.heap.size ∧ L.length ≤ (rowOf w g).size ∧ ∀ (k : Nat) (x : List UInt8), L[k]? = some x → (rowOf w g)[k]? = some (Value.string (tx x)) := by
  obtain ⟨g, cap, hv, -, hg, -, hs, hc⟩ := h.pos h0
  refine ⟨g, cap, hv, hg, by omega, fun k x hx => ?_⟩
  have := hc k (List.getElem?_eq_some_iff.1 hx).1 0 (by omega)
  rw [stV_at hx, Nat.mul_one, Nat.add_zero] at this
  exact this
theorem SlT.at {w : World} {v : Value} {L : List (List UInt8)} (h : SlT w v L) (h0 : 0 < L.length) : ∃ g o cap, v = .slice (some ⟨g, o, none⟩) L.length cap ∧ g < w.heap.size ∧ o + L.length ≤ (rowOf w g).size ∧ ∀ (k : Nat) (x : List UInt8), L[k]? = some x → (rowOf w g)[o + k]? = some (Value.string (tx x)) := by
  obtain ⟨g, o, cap, hv, hg, hs, hc⟩ := h.pos h0
  refine ⟨g, o, cap, hv, hg, by omega, fun k x hx => ?_⟩
  have := hc k (List.getElem?_eq_some_iff.1 hx).1 0 (by omega)
  rw [stV_at hx, Nat.mul_one, Nat.add_zero] at this
  exact this
end Go.Proofs.YtejnejplofddnaaGreatDoor
/- Lists of numbers and of strings: where a number stands, copies, likeness. -/
namespace Go.Proofs.YtejnejplofddnaaGreatDoor
open Go.RowKit
set_option linter.unusedVariables false
set_option linter.unusedSimpArgs false
set_option maxRecDepth 100000
theorem own_empty_i64 (w : World) (e : TypeId) : OwnK .i64 1 (w.alloc (.cells #[] e)) w.heap.size (.slice (some ⟨w.heap.size, 0, none⟩) 0 0) 0 (nl []) := OwnK.of (owns_empty1 w e) (fun j hj => by omega)
def nlV (l : List Nat) : List Value := l.map fun (i : Nat) => Value.int .i64 (i : Int)
theorem nlV_snoc (l : List Nat) (i : Nat) : nlV (l ++ [i]) = nlV l ++ [.int .i64 (i : Int)] := by unfold nlV; rw [List.map_append]; rfl
theorem own_nlV {w : World} {base : Nat} {e : TypeId} {v : Value} {l : List Nat} {n : Nat} (hl : l.length = n) (h : w.ownsRow base e 1 v n (nlV l)) : OwnK .i64 1 w base v n (nl l) := OwnK.of h (fun j hj => by
  have hj : j < l.length := by omega
  unfold nlV
  rw [List.getElem?_map, List.getElem?_eq_getElem hj, nl_at (List.getElem?_eq_getElem hj)]; rfl)
set_option maxHeartbeats 4000000 in
theorem index_i64 (lv : Value) (b : Nat) (l : List Nat) (hl : l.length ≤ 1048576) (i : Nat) (w : World) (h : OwnK .i64 1 w b lv l.length (nl l)) :
    Calls Tryz.prog 71 #[lv, .int .i64 (i : Int)] w fun e w' => e = .returned (.int .i64 (ixL l i)) ∧ Below w.heap.size w w' := by
  have HH := Lib.hid h
  obtain ⟨a, cap, rfl⟩ := h.len
  clear h
  go_enter Tryz.func71, Tryz.ntmps71
  go_wp2
  go_loopw [8] (fun z wr => ∃ k : Nat, k ≤ l.length ∧ z = .int .i64 k ∧ Below w.heap.size w wr ∧ ∀ j, j < k → l[j]? ≠ some i) (fun z wr => l.length + 1 - (intOf z).toNat)
  case atStart => exact ⟨0, by omega, rfl, by repeat' (first | with_reducible exact Below.refl _ _ | with_reducible assumption | with_reducible refine Below.drew ?_ | with_reducible refine Below.drewN ?_ _ | with_reducible refine Below.alloc ?_ ?_ _ | with_reducible refine Below.setCell ?_ ?_ _ | with_reducible refine Below.setRow ?_ ?_ _ | with_reducible refine below_step (by assumption) ?_ ?_ | (show (_ : Nat) ≤ _; first | omega | (simp <;> omega))), fun j hj => absurd hj (by omega)⟩
  case round =>
    obtain ⟨k, hk, rfl, hb, hno⟩ := hrel
    have HNO := Lib.hid hno
    clear hno
    by_cases hlt : k < l.length
    · obtain ⟨g, cap', hv, -, hg, -, hRs, hc⟩ := HH.out.pos (by omega)
      simp only [Value.slice.injEq] at hv
      obtain ⟨rfl, -, rfl⟩ := hv
      obtain ⟨x, hx⟩ : ∃ x, l[k]? = some x := ⟨_, List.getElem?_eq_getElem hlt⟩
      have e0 := hc k (by omega)
      rw [nl_at hx, ← keep_row hb hg] at e0
      have hgw : g < wr.heap.size := by have := hb.size; omega
      have hlt2 : (k : Int) < (l.length : Int) := by omega
      have hw1 : IntKind.i64.wrap ((k : Int) + 1) = ((k + 1 : Nat) : Int) := by rw [IntWalk.i64_in _ (by omega)]; rfl
      clear hc hRs
      by_cases hxi : x = i
      · subst hxi
        have HI := Lib.hid (ixL_hit hx HNO.out)
        clear hx
        go_wp2
        go_ret
        exact ⟨by rw [HI.out]; rfl, by repeat' (first | with_reducible exact Below.refl _ _ | with_reducible assumption | with_reducible refine Below.drew ?_ | with_reducible refine Below.drewN ?_ _ | with_reducible refine Below.alloc ?_ ?_ _ | with_reducible refine Below.setCell ?_ ?_ _ | with_reducible refine Below.setRow ?_ ?_ _ | with_reducible refine below_step (by assumption) ?_ ?_ | (show (_ : Nat) ≤ _; first | omega | (simp <;> omega)))⟩
      · have h1 : ((i : Int) == (x : Int)) = false := by rw [beq_eq_false_iff_ne]; omega
        have h2 : ¬ i = x := fun e => hxi e.symm
        have h3 : ¬ (i : Int) = (x : Int) := by omega
        have HN := Lib.hid (show ∀ j, j < k + 1 → l[j]? ≠ some i from fun j hj => by
          rcases Nat.lt_succ_iff_lt_or_eq.1 hj with h | rfl
          · exact HNO.out j h
          · rw [hx]; exact fun e => hxi (Option.some.inj e))
        clear hx
        go_wp2
        go_roundw
        case rel => first | exact ⟨k + 1, by omega, by go_num, by repeat' (first | with_reducible exact Below.refl _ _ | with_reducible assumption | with_reducible refine Below.drew ?_ | with_reducible refine Below.drewN ?_ _ | with_reducible refine Below.alloc ?_ ?_ _ | with_reducible refine Below.setCell ?_ ?_ _ | with_reducible refine Below.setRow ?_ ?_ _ | with_reducible refine below_step (by assumption) ?_ ?_ | (show (_ : Nat) ≤ _; first | omega | (simp <;> omega))), HN.out⟩ | ((repeat (with_reducible apply Exists.intro)); refine And.intro ?_ ?_; rotate_left; (focus ((repeat' (with_reducible apply And.intro)) <;> rfl)); exact ⟨k + 1, by omega, by go_num, by repeat' (first | with_reducible exact Below.refl _ _ | with_reducible assumption | with_reducible refine Below.drew ?_ | with_reducible refine Below.drewN ?_ _ | with_reducible refine Below.alloc ?_ ?_ _ | with_reducible refine Below.setCell ?_ ?_ _ | with_reducible refine Below.setRow ?_ ?_ _ | with_reducible refine below_step (by assumption) ?_ ?_ | (show (_ : Nat) ≤ _; first | omega | (simp <;> omega))), HN.out⟩)
        case measure => simp [intOf]; omega
    · have hke : k = l.length := by omega
      subst hke
      have HI := Lib.hid (ixL_miss HNO.out)
      go_wp2
      go_ret
      exact ⟨by rw [HI.out]; rfl, by repeat' (first | with_reducible exact Below.refl _ _ | with_reducible assumption | with_reducible refine Below.drew ?_ | with_reducible refine Below.drewN ?_ _ | with_reducible refine Below.alloc ?_ ?_ _ | with_reducible refine Below.setCell ?_ ?_ _ | with_reducible refine Below.setRow ?_ ?_ _ | with_reducible refine below_step (by assumption) ?_ ?_ | (show (_ : Nat) ≤ _; first | omega | (simp <;> omega)))⟩
theorem contains_i64 (lv : Value) (b : Nat) (l : List Nat) (hl : l.length ≤ 1048576) (i : Nat) (w : World) (h : OwnK .i64 1 w b lv l.length (nl l)) :
    Calls Tryz.prog 97 #[lv, .int .i64 (i : Int)] w fun e w' => e = .returned (.bool (decide (i ∈ l))) ∧ Below w.heap.size w w' := by
  have HX := Lib.hid (fun w h => index_i64 lv b l hl i w h)
  have HH := Lib.hid h
  have hd : decide (i ∈ l) = decide (0 ≤ ixL l i) := decide_eq_decide.2 (ixL_lt l i).2.2
  rw [hd]
  obtain ⟨h1, h2, -⟩ := ixL_lt l i
  clear h hd
  generalize ixL l i = z at *
  go_enter Tryz.func97, Tryz.ntmps97
  go_wp2_with (go_at_call 71; refine (HX.out _ (HH.out.below (by repeat' (first | with_reducible exact Below.refl _ _ | with_reducible assumption | with_reducible refine Below.drew ?_ | with_reducible refine Below.drewN ?_ _ | with_reducible refine Below.alloc ?_ ?_ _ | with_reducible refine Below.setCell ?_ ?_ _ | with_reducible refine Below.setRow ?_ ?_ _ | with_reducible refine below_step (by assumption) ?_ ?_ | (show (_ : Nat) ≤ _; first | omega | (simp <;> omega)))) (Nat.le_refl _))).mono ?_; rintro e w1 ⟨rfl, hb1⟩; have r_hb1 := keep_rowA hb1; have f_hb1 := keep_frA hb1; have s_hb1 := hb1.size; (try simp only [World.size_alloc, World.size_setCell, setRow_size, World.size_drew, size_drewNm] at r_hb1 f_hb1 s_hb1))
  go_ret
  exact ⟨rfl, by repeat' (first | with_reducible exact Below.refl _ _ | with_reducible assumption | with_reducible refine Below.drew ?_ | with_reducible refine Below.drewN ?_ _ | with_reducible refine Below.alloc ?_ ?_ _ | with_reducible refine Below.setCell ?_ ?_ _ | with_reducible refine Below.setRow ?_ ?_ _ | with_reducible refine below_step (by assumption) ?_ ?_ | (show (_ : Nat) ≤ _; first | omega | (simp <;> omega)))⟩
set_option maxHeartbeats 4000000 in
theorem l00Has_any (lv : Value) (b : Nat) (l : List Nat) (hl : l.length ≤ 1048576) (i : Nat) (w : World) (h : OwnK .i64 1 w b lv l.length (nl l)) :
    Calls Tryz.prog 95 #[lv, .int .i64 (i : Int)] w fun e w' => e = .returned (.bool (decide (i ∈ l))) ∧ Below w.heap.size w w' := by
  have HH := Lib.hid h
  obtain ⟨a, cap, rfl⟩ := h.len
  clear h
  go_enter Tryz.func95, Tryz.ntmps95
  go_wp2
  go_loopw [5] (fun z wr => ∃ k : Nat, k ≤ l.length ∧ z = .int .i64 k ∧ Below w.heap.size w wr ∧ ∀ j, j < k → l[j]? ≠ some i) (fun z wr => l.length + 1 - (intOf z).toNat)
  case atStart => exact ⟨0, by omega, rfl, by repeat' (first | with_reducible exact Below.refl _ _ | with_reducible assumption | with_reducible refine Below.drew ?_ | with_reducible refine Below.drewN ?_ _ | with_reducible refine Below.alloc ?_ ?_ _ | with_reducible refine Below.setCell ?_ ?_ _ | with_reducible refine Below.setRow ?_ ?_ _ | with_reducible refine below_step (by assumption) ?_ ?_ | (show (_ : Nat) ≤ _; first | omega | (simp <;> omega))), fun j hj => absurd hj (by omega)⟩
  case round =>
    obtain ⟨k, hk, rfl, hb, hno⟩ := hrel
    have HNO := Lib.hid hno
    clear hno
    by_cases hlt : k < l.length
    · obtain ⟨g, cap', hv, -, hg, -, hRs, hc⟩ := HH.out.pos (by omega)
      simp only [Value.slice.injEq] at hv
      obtain ⟨rfl, -, rfl⟩ := hv
      obtain ⟨x, hx⟩ : ∃ x, l[k]? = some x := ⟨_, List.getElem?_eq_getElem hlt⟩
      have e0 := hc k (by omega)
      rw [nl_at hx, ← keep_row hb hg] at e0
      have hgw : g < wr.heap.size := by have := hb.size; omega
      have hlt2 : (k : Int) < (l.length : Int) := by omega
      have hw1 : IntKind.i64.wrap ((k : Int) + 1) = ((k + 1 : Nat) : Int) := by rw [IntWalk.i64_in _ (by omega)]; rfl
      clear hc hRs
      by_cases hxi : x = i
      · subst hxi
        have HI := Lib.hid (show decide (x ∈ l) = true from decide_eq_true (List.mem_of_getElem? hx))
        clear hx
        go_wp2
        go_ret
        exact ⟨by rw [HI.out]; rfl, by repeat' (first | with_reducible exact Below.refl _ _ | with_reducible assumption | with_reducible refine Below.drew ?_ | with_reducible refine Below.drewN ?_ _ | with_reducible refine Below.alloc ?_ ?_ _ | with_reducible refine Below.setCell ?_ ?_ _ | with_reducible refine Below.setRow ?_ ?_ _ | with_reducible refine below_step (by assumption) ?_ ?_ | (show (_ : Nat) ≤ _; first | omega | (simp <;> omega)))⟩
      · have h1 : ((x : Int) == (i : Int)) = false := by rw [beq_eq_false_iff_ne]; omega
        have h2 : ¬ x = i := hxi
        have h3 : ¬ (x : Int) = (i : Int) := by omega
        have HN := Lib.hid (show ∀ j, j < k + 1 → l[j]? ≠ some i from fun j hj => by
          rcases Nat.lt_succ_iff_lt_or_eq.1 hj with h | rfl
          · exact HNO.out j h
          · rw [hx]; exact fun e => hxi (Option.some.inj e))
        clear hx
        go_wp2
        go_roundw
        case rel => first | exact ⟨k + 1, by omega, by go_num, by repeat' (first | with_reducible exact Below.refl _ _ | with_reducible assumption | with_reducible refine Below.drew ?_ | with_reducible refine Below.drewN ?_ _ | with_reducible refine Below.alloc ?_ ?_ _ | with_reducible refine Below.setCell ?_ ?_ _ | with_reducible refine Below.setRow ?_ ?_ _ | with_reducible refine below_step (by assumption) ?_ ?_ | (show (_ : Nat) ≤ _; first | omega | (simp <;> omega))), HN.out⟩ | ((repeat (with_reducible apply Exists.intro)); refine And.intro ?_ ?_; rotate_left; (focus ((repeat' (with_reducible apply And.intro)) <;> rfl)); exact ⟨k + 1, by omega, by go_num, by repeat' (first | with_reducible exact Below.refl _ _ | with_reducible assumption | with_reducible refine Below.drew ?_ | with_reducible refine Below.drewN ?_ _ | with_reducible refine Below.alloc ?_ ?_ _ | with_reducible refine Below.setCell ?_ ?_ _ | with_reducible refine Below.setRow ?_ ?_ _ | with_reducible refine below_step (by assumption) ?_ ?_ | (show (_ : Nat) ≤ _; first | omega | (simp <;> omega))), HN.out⟩)
        case measure => simp [intOf]; omega
    · have hke : k = l.length := by omega
      subst hke
      have HI := Lib.hid (show decide (i ∈ l) = false from decide_eq_false (fun hm => by
        obtain ⟨j, hj, e⟩ := List.getElem_of_mem hm
        exact HNO.out j hj (by rw [List.getElem?_eq_getElem hj, e])))
      go_wp2
      go_ret
      exact ⟨by rw [HI.out]; rfl, by repeat' (first | with_reducible exact Below.refl _ _ | with_reducible assumption | with_reducible refine Below.drew ?_ | with_reducible refine Below.drewN ?_ _ | with_reducible refine Below.alloc ?_ ?_ _ | with_reducible refine Below.setCell ?_ ?_ _ | with_reducible refine Below.setRow ?_ ?_ _ | with_reducible refine below_step (by assumption) ?_ ?_ | (show (_ : Nat) ≤ _; first | omega | (simp <;> omega)))⟩
theorem nlV_cells {w : World} {b g cap : Nat} {l : List Nat} (h : OwnK .i64 1 w b (.slice (some ⟨g, 0, none⟩) l.length cap) l.length (nl l)) (h0 : 0 < l.length) : g < w.heap.size ∧ ∀ (j : Nat) (u : Value), (nlV l)[j]? = some u → (rowOf w g)[j]? = some u := by
  obtain ⟨g', cap', hv, -, hg, -, -, hc⟩ := h.pos h0
  simp only [Value.slice.injEq, Option.some.injEq, Addr.mk.injEq] at hv
  obtain ⟨⟨rfl, -, -⟩, -, rfl⟩ := hv
  refine ⟨hg, fun j u hj => ?_⟩
  unfold nlV at hj
  rw [List.getElem?_map] at hj
  have hjl : j < l.length := by
    apply Decidable.byContradiction
    intro hn
    rw [List.getElem?_eq_none (by omega)] at hj
    cases hj
  rw [List.getElem?_eq_getElem hjl] at hj
  have := hc j (by omega)
  rw [nl_at (List.getElem?_eq_getElem hjl)] at this
  rw [this]
  simpa using hj
theorem nlV_one (l : List Nat) : ∀ u ∈ nlV l, u.oneCell' = true := by
  intro u hu
  obtain ⟨i, -, rfl⟩ := List.mem_map.1 hu
  rfl
theorem nlV_len (l : List Nat) : (nlV l).length = l.length := by unfold nlV; rw [List.length_map]
set_option maxHeartbeats 2000000 in
theorem l00Own_any (lv : Value) (b : Nat) (l : List Nat) (hl : l.length ≤ 1048576) (w : World) (h : OwnK .i64 1 w b lv l.length (nl l)) :
    Calls Tryz.prog 86 #[lv] w fun e w' => ∃ v', e = .returned v' ∧ w'.ownsRow w.heap.size 2 1 v' l.length (nlV l) ∧ Below w.heap.size w w' := by
  obtain ⟨i0, z0, hi0, hz0, hs0, hb0, hc0⟩ := i64_info
  rcases Nat.eq_zero_or_pos l.length with h0 | h0
  · have hl0 : l = [] := List.eq_nil_of_length_eq_zero h0
    subst hl0
    obtain ⟨a, cap, rfl⟩ := h.len
    have HZ := Lib.hid (fun b w => append_zero (P := Tryz.prog) 37 37 2 i0 Tryz.underlying37 hi0 b a 0 0 cap (by omega) w)
    clear h
    go_enter Tryz.func86, Tryz.ntmps86
    go_wp2_with (at_builtin; refine Lib.wpList_append_run _ rfl _ _ _ _ rfl _ _ rfl rfl _ _ (HZ.out _ _) ?_)
    go_ret
    exact ⟨_, rfl, owns_empty1 _ _, by repeat' (first | with_reducible exact Below.refl _ _ | with_reducible assumption | with_reducible refine Below.drew ?_ | with_reducible refine Below.drewN ?_ _ | with_reducible refine Below.alloc ?_ ?_ _ | with_reducible refine Below.setCell ?_ ?_ _ | with_reducible refine Below.setRow ?_ ?_ _ | with_reducible refine below_step (by assumption) ?_ ?_ | (show (_ : Nat) ≤ _; first | omega | (simp <;> omega)))⟩
  · have h2 := h
    obtain ⟨g, cap, rfl, -⟩ := h.pos h0
    obtain ⟨hg, hc⟩ := nlV_cells h2 h0
    have HC := Lib.hid hc
    clear h h2 hc
    go_enter Tryz.func86, Tryz.ntmps86
    go_wp2_with (at_builtin; refine wpList_append_own _ rfl _ _ 37 rfl w.heap.size 2 i0 z0 1 8 Tryz.underlying37 hi0 hz0 hs0 hb0 hc0 (by decide) _ _ _ rfl (owns_empty1 w _) ⟨g, 0, none⟩ l.length cap (nlV l) rfl (by rw [nlV_len, Nat.mul_one]) ?c1 (nlV_one l) ?c3 ?c4 ?c5 ?_)
    case c1 =>
      intro j u hj
      have : ((⟨g, 0, none⟩ : Addr).add j) = ⟨g, j, none⟩ := by unfold Addr.add; split <;> simp_all
      have e := HC.out j u hj
      rw [this, cell_row]
      go_simp
    case c3 => unfold maxLen; omega
    case c4 => omega
    case c5 => simp
    intro v' w1 hown' hgrow _
    have hbg : Below w.heap.size w w1 := below_grown (Below.alloc (Below.refl _ _) (Nat.le_refl _) _) hgrow (fun k hk => by simp [Value.ownBlock] at hk; omega) (by simp)
    have HW := Lib.hid hown'
    have HB := Lib.hid hbg
    clear hown' hgrow hbg
    go_wp2
    go_ret
    exact ⟨_, rfl, HW.out, HB.out⟩
set_option maxHeartbeats 2000000 in
theorem clone_i64 (lv : Value) (b : Nat) (l : List Nat) (hl : l.length ≤ 1048576) (w : World) (h : OwnK .i64 1 w b lv l.length (nl l)) :
    Calls Tryz.prog 98 #[lv] w fun e w' => ∃ v', e = .returned v' ∧ w'.ownsRow w.heap.size 2 1 v' l.length (nlV l) ∧ Below w.heap.size w w' := by
  obtain ⟨i0, z0, hi0, hz0, hs0, hb0, hc0⟩ := i64_info
  have heq := fun a m c w => Lib.run_eql_slice_nil (P := Tryz.prog) w 37 2 a m c 0 0 Tryz.underlying37
  rcases Nat.eq_zero_or_pos l.length with h0 | h0
  · have hl0 : l = [] := List.eq_nil_of_length_eq_zero h0
    subst hl0
    rcases h with ⟨rfl, -⟩ | ⟨g, cap, rfl, -⟩
    · go_enter Tryz.func98, Tryz.ntmps98
      go_wp2
      go_ret
      exact ⟨_, rfl, World.ownsRow_nil _ _ _ _, by repeat' (first | with_reducible exact Below.refl _ _ | with_reducible assumption | with_reducible refine Below.drew ?_ | with_reducible refine Below.drewN ?_ _ | with_reducible refine Below.alloc ?_ ?_ _ | with_reducible refine Below.setCell ?_ ?_ _ | with_reducible refine Below.setRow ?_ ?_ _ | with_reducible refine below_step (by assumption) ?_ ?_ | (show (_ : Nat) ≤ _; first | omega | (simp <;> omega)))⟩
    · have HZ := Lib.hid (fun b w => append_zero (P := Tryz.prog) 37 37 2 i0 Tryz.underlying37 hi0 b (some ⟨g, 0, none⟩) 0 0 cap (by omega) w)
      go_enter Tryz.func98, Tryz.ntmps98
      go_wp2_with (at_builtin; refine Lib.wpList_append_run _ rfl _ _ _ _ rfl _ _ rfl rfl _ _ (HZ.out _ _) ?_)
      go_ret
      exact ⟨_, rfl, owns_empty1 _ _, by repeat' (first | with_reducible exact Below.refl _ _ | with_reducible assumption | with_reducible refine Below.drew ?_ | with_reducible refine Below.drewN ?_ _ | with_reducible refine Below.alloc ?_ ?_ _ | with_reducible refine Below.setCell ?_ ?_ _ | with_reducible refine Below.setRow ?_ ?_ _ | with_reducible refine below_step (by assumption) ?_ ?_ | (show (_ : Nat) ≤ _; first | omega | (simp <;> omega)))⟩
  · have h2 := h
    obtain ⟨g, cap, rfl, -⟩ := h.pos h0
    obtain ⟨hg, hc⟩ := nlV_cells h2 h0
    have HC := Lib.hid hc
    clear h h2 hc
    go_enter Tryz.func98, Tryz.ntmps98
    go_wp2_with (at_builtin; refine wpList_append_own _ rfl _ _ 37 rfl w.heap.size 2 i0 z0 1 8 Tryz.underlying37 hi0 hz0 hs0 hb0 hc0 (by decide) _ _ _ rfl (owns_empty1 w _) ⟨g, 0, none⟩ l.length cap (nlV l) rfl (by rw [nlV_len, Nat.mul_one]) ?c1 (nlV_one l) ?c3 ?c4 ?c5 ?_)
    case c1 =>
      intro j u hj
      have : ((⟨g, 0, none⟩ : Addr).add j) = ⟨g, j, none⟩ := by unfold Addr.add; split <;> simp_all
      have e := HC.out j u hj
      rw [this, cell_row]
      go_simp
    case c3 => unfold maxLen; omega
    case c4 => omega
    case c5 => simp
    intro v' w1 hown' hgrow _
    have hbg : Below w.heap.size w w1 := below_grown (Below.alloc (Below.refl _ _) (Nat.le_refl _) _) hgrow (fun k hk => by simp [Value.ownBlock] at hk; omega) (by simp)
    have HW := Lib.hid hown'
    have HB := Lib.hid hbg
    clear hown' hgrow hbg
    go_wp2
    go_ret
    exact ⟨_, rfl, HW.out, HB.out⟩
set_option maxHeartbeats 4000000 in
theorem l06Same_any (v1 v2 : Value) (b1 b2 : Nat) (A B : List (List UInt8)) (hA : A.length ≤ 1048576) (hB : B.length ≤ 1048576) (w : World) (h1 : OwnT w b1 v1 A) (h2 : OwnT w b2 v2 B) :
    Calls Tryz.prog 52 #[v1, v2] w fun e w' => e = .returned (.bool (eqL A B)) ∧ Below w.heap.size w w' := by
  have H1 := Lib.hid h1
  have H2 := Lib.hid h2
  obtain ⟨a1, c1, rfl⟩ := h1.len
  obtain ⟨a2, c2, rfl⟩ := h2.len
  clear h1 h2
  by_cases hne : A.length = B.length
  case neg =>
    have hn1 : ((A.length : Int) == (B.length : Int)) = false := by rw [beq_eq_false_iff_ne]; omega
    have hn2 : ¬ (A.length : Int) = (B.length : Int) := by omega
    have hn3 : ((A.length : Int) != (B.length : Int)) = true := by rw [bne, hn1]; rfl
    have HV := Lib.hid (eqL_len hne)
    go_enter Tryz.func52, Tryz.ntmps52
    go_wp2
    go_ret
    exact ⟨by rw [HV.out]; rfl, by repeat' (first | with_reducible exact Below.refl _ _ | with_reducible assumption | with_reducible refine Below.drew ?_ | with_reducible refine Below.drewN ?_ _ | with_reducible refine Below.alloc ?_ ?_ _ | with_reducible refine Below.setCell ?_ ?_ _ | with_reducible refine Below.setRow ?_ ?_ _ | with_reducible refine below_step (by assumption) ?_ ?_ | (show (_ : Nat) ≤ _; first | omega | (simp <;> omega)))⟩
  have HE := Lib.hid (fun ha => eqL_all (A := A) (B := B) hne ha)
  have HO := Lib.hid (fun j a b (ha : A[j]? = some a) (hb : B[j]? = some b) (hn : a ≠ b) => eqL_no ha hb hn)
  have hnB : ((A.length : Int) != (B.length : Int)) = false := by rw [show (A.length : Int) = (B.length : Int) by omega]; simp
  go_enter Tryz.func52, Tryz.ntmps52
  go_wp2
  go_loopw [5] (fun z wr => ∃ k : Nat, k ≤ A.length ∧ z = .int .i64 k ∧ Below w.heap.size w wr ∧ ∀ j a b, j < k → A[j]? = some a → B[j]? = some b → a = b) (fun z wr => A.length + 1 - (intOf z).toNat)
  case atStart => exact ⟨0, by omega, rfl, by repeat' (first | with_reducible exact Below.refl _ _ | with_reducible assumption | with_reducible refine Below.drew ?_ | with_reducible refine Below.drewN ?_ _ | with_reducible refine Below.alloc ?_ ?_ _ | with_reducible refine Below.setCell ?_ ?_ _ | with_reducible refine Below.setRow ?_ ?_ _ | with_reducible refine below_step (by assumption) ?_ ?_ | (show (_ : Nat) ≤ _; first | omega | (simp <;> omega))), fun j a b hj => absurd hj (by omega)⟩
  case round =>
    obtain ⟨k, hk, rfl, hb, hal⟩ := hrel
    have HAL := Lib.hid hal
    clear hal
    by_cases hlt : k < A.length
    · obtain ⟨xa, hxa⟩ : ∃ x, A[k]? = some x := ⟨_, List.getElem?_eq_getElem hlt⟩
      obtain ⟨xb, hxb⟩ : ∃ x, B[k]? = some x := ⟨_, List.getElem?_eq_getElem (by omega)⟩
      obtain ⟨g1, c1', hv, hg1, hs1, hc1⟩ := H1.out.at (by omega)
      simp only [Value.slice.injEq] at hv
      obtain ⟨rfl, -, rfl⟩ := hv
      obtain ⟨g2, c2', hv, hg2, hs2, hc2⟩ := H2.out.at (by omega)
      simp only [Value.slice.injEq] at hv
      obtain ⟨rfl, -, rfl⟩ := hv
      have e1 := hc1 k xa hxa
      have e2 := hc2 k xb hxb
      rw [← keep_row hb hg1] at e1
      rw [← keep_row hb hg2] at e2
      have hg1w : g1 < wr.heap.size := by have := hb.size; omega
      have hg2w : g2 < wr.heap.size := by have := hb.size; omega
      have hlt2 : (k : Int) < (A.length : Int) := by omega
      have hlt3 : k < B.length := by omega
      have hlt4 : (k : Int) < (B.length : Int) := by omega
      have hw1 : IntKind.i64.wrap ((k : Int) + 1) = ((k + 1 : Nat) : Int) := by rw [IntWalk.i64_in _ (by omega)]; rfl
      clear hc1 hc2 hs1 hs2 hg1 hg2
      by_cases hx : xa = xb
      · subst hx
        have HN := Lib.hid (show ∀ j a b, j < k + 1 → A[j]? = some a → B[j]? = some b → a = b from fun j a b hj ha hb => by
          rcases Nat.lt_succ_iff_lt_or_eq.1 hj with h | rfl
          · exact HAL.out j a b h ha hb
          · rw [hxa] at ha; rw [hxb] at hb
            exact (Option.some.inj ha).symm.trans (Option.some.inj hb))
        clear hxa hxb
        go_wp2
        go_quiet (fail)
        go_wp2
        go_roundw
        case rel => first | exact ⟨k + 1, by omega, by go_num, by repeat' (first | with_reducible exact Below.refl _ _ | with_reducible assumption | with_reducible refine Below.drew ?_ | with_reducible refine Below.drewN ?_ _ | with_reducible refine Below.alloc ?_ ?_ _ | with_reducible refine Below.setCell ?_ ?_ _ | with_reducible refine Below.setRow ?_ ?_ _ | with_reducible refine below_step (by assumption) ?_ ?_ | (show (_ : Nat) ≤ _; first | omega | (simp <;> omega))), HN.out⟩ | ((repeat (with_reducible apply Exists.intro)); refine And.intro ?_ ?_; rotate_left; (focus ((repeat' (with_reducible apply And.intro)) <;> rfl)); exact ⟨k + 1, by omega, by go_num, by repeat' (first | with_reducible exact Below.refl _ _ | with_reducible assumption | with_reducible refine Below.drew ?_ | with_reducible refine Below.drewN ?_ _ | with_reducible refine Below.alloc ?_ ?_ _ | with_reducible refine Below.setCell ?_ ?_ _ | with_reducible refine Below.setRow ?_ ?_ _ | with_reducible refine below_step (by assumption) ?_ ?_ | (show (_ : Nat) ≤ _; first | omega | (simp <;> omega))), HN.out⟩)
        case measure => simp [intOf]; omega
      · have HV := Lib.hid (HO.out k xa xb hxa hxb hx)
        have h1 : ((tx xa).toList == (tx xb).toList) = false := by rw [tx_list, tx_list, beq_eq_false_iff_ne]; exact hx
        clear hxa hxb
        go_wp2
        go_quiet (fail)
        go_wp2
        go_ret
        exact ⟨by rw [HV.out]; rfl, by repeat' (first | with_reducible exact Below.refl _ _ | with_reducible assumption | with_reducible refine Below.drew ?_ | with_reducible refine Below.drewN ?_ _ | with_reducible refine Below.alloc ?_ ?_ _ | with_reducible refine Below.setCell ?_ ?_ _ | with_reducible refine Below.setRow ?_ ?_ _ | with_reducible refine below_step (by assumption) ?_ ?_ | (show (_ : Nat) ≤ _; first | omega | (simp <;> omega)))⟩
    · have hke : k = A.length := by omega
      subst hke
      have HV := Lib.hid (HE.out (fun j a b hj ha hb => HAL.out j a b hj ha hb))
      go_wp2
      go_ret
      exact ⟨by rw [HV.out]; rfl, by repeat' (first | with_reducible exact Below.refl _ _ | with_reducible assumption | with_reducible refine Below.drew ?_ | with_reducible refine Below.drewN ?_ _ | with_reducible refine Below.alloc ?_ ?_ _ | with_reducible refine Below.setCell ?_ ?_ _ | with_reducible refine Below.setRow ?_ ?_ _ | with_reducible refine below_step (by assumption) ?_ ?_ | (show (_ : Nat) ≤ _; first | omega | (simp <;> omega)))⟩
set_option maxHeartbeats 4000000 in
theorem equal_strs_any (v1 v2 : Value) (b1 b2 : Nat) (A B : List (List UInt8)) (hA : A.length ≤ 1048576) (hB : B.length ≤ 1048576) (w : World) (h1 : OwnT w b1 v1 A) (h2 : OwnT w b2 v2 B) :
    Calls Tryz.prog 96 #[v1, v2] w fun e w' => e = .returned (.bool (eqL A B)) ∧ Below w.heap.size w w' := by
  have H1 := Lib.hid h1
  have H2 := Lib.hid h2
  obtain ⟨a1, c1, rfl⟩ := h1.len
  obtain ⟨a2, c2, rfl⟩ := h2.len
  clear h1 h2
  by_cases hne : A.length = B.length
  case neg =>
    have hn1 : ((A.length : Int) == (B.length : Int)) = false := by rw [beq_eq_false_iff_ne]; omega
    have hn2 : ¬ (A.length : Int) = (B.length : Int) := by omega
    have hn3 : ((A.length : Int) != (B.length : Int)) = true := by rw [bne, hn1]; rfl
    have HV := Lib.hid (eqL_len hne)
    go_enter Tryz.func96, Tryz.ntmps96
    go_wp2
    go_ret
    exact ⟨by rw [HV.out]; rfl, by repeat' (first | with_reducible exact Below.refl _ _ | with_reducible assumption | with_reducible refine Below.drew ?_ | with_reducible refine Below.drewN ?_ _ | with_reducible refine Below.alloc ?_ ?_ _ | with_reducible refine Below.setCell ?_ ?_ _ | with_reducible refine Below.setRow ?_ ?_ _ | with_reducible refine below_step (by assumption) ?_ ?_ | (show (_ : Nat) ≤ _; first | omega | (simp <;> omega)))⟩
  have HE := Lib.hid (fun ha => eqL_all (A := A) (B := B) hne ha)
  have HO := Lib.hid (fun j a b (ha : A[j]? = some a) (hb : B[j]? = some b) (hn : a ≠ b) => eqL_no ha hb hn)
  have hnB : ((A.length : Int) != (B.length : Int)) = false := by rw [show (A.length : Int) = (B.length : Int) by omega]; simp
  go_enter Tryz.func96, Tryz.ntmps96
  go_wp2
  go_loopw [13] (fun z wr => ∃ k : Nat, k ≤ A.length ∧ z = .int .i64 k ∧ Below w.heap.size w wr ∧ ∀ j a b, j < k → A[j]? = some a → B[j]? = some b → a = b) (fun z wr => A.length + 1 - (intOf z).toNat)
  case atStart => exact ⟨0, by omega, rfl, by repeat' (first | with_reducible exact Below.refl _ _ | with_reducible assumption | with_reducible refine Below.drew ?_ | with_reducible refine Below.drewN ?_ _ | with_reducible refine Below.alloc ?_ ?_ _ | with_reducible refine Below.setCell ?_ ?_ _ | with_reducible refine Below.setRow ?_ ?_ _ | with_reducible refine below_step (by assumption) ?_ ?_ | (show (_ : Nat) ≤ _; first | omega | (simp <;> omega))), fun j a b hj => absurd hj (by omega)⟩
  case round =>
    obtain ⟨k, hk, rfl, hb, hal⟩ := hrel
    have HAL := Lib.hid hal
    clear hal
    by_cases hlt : k < A.length
    · obtain ⟨xa, hxa⟩ : ∃ x, A[k]? = some x := ⟨_, List.getElem?_eq_getElem hlt⟩
      obtain ⟨xb, hxb⟩ : ∃ x, B[k]? = some x := ⟨_, List.getElem?_eq_getElem (by omega)⟩
      obtain ⟨g1, c1', hv, hg1, hs1, hc1⟩ := H1.out.at (by omega)
      simp only [Value.slice.injEq] at hv
      obtain ⟨rfl, -, rfl⟩ := hv
      obtain ⟨g2, c2', hv, hg2, hs2, hc2⟩ := H2.out.at (by omega)
      simp only [Value.slice.injEq] at hv
      obtain ⟨rfl, -, rfl⟩ := hv
      have e1 := hc1 k xa hxa
      have e2 := hc2 k xb hxb
      rw [← keep_row hb hg1] at e1
      rw [← keep_row hb hg2] at e2
      have hg1w : g1 < wr.heap.size := by have := hb.size; omega
      have hg2w : g2 < wr.heap.size := by have := hb.size; omega
      have hlt2 : (k : Int) < (A.length : Int) := by omega
      have hlt3 : k < B.length := by omega
      have hlt4 : (k : Int) < (B.length : Int) := by omega
      have hw1 : IntKind.i64.wrap ((k : Int) + 1) = ((k + 1 : Nat) : Int) := by rw [IntWalk.i64_in _ (by omega)]; rfl
      clear hc1 hc2 hs1 hs2 hg1 hg2
      by_cases hx : xa = xb
      · subst hx
        have HN := Lib.hid (show ∀ j a b, j < k + 1 → A[j]? = some a → B[j]? = some b → a = b from fun j a b hj ha hb => by
          rcases Nat.lt_succ_iff_lt_or_eq.1 hj with h | rfl
          · exact HAL.out j a b h ha hb
          · rw [hxa] at ha; rw [hxb] at hb
            exact (Option.some.inj ha).symm.trans (Option.some.inj hb))
        clear hxa hxb
        go_wp2
        go_quiet (fail)
        go_wp2
        go_roundw
        case rel => first | exact ⟨k + 1, by omega, by go_num, by repeat' (first | with_reducible exact Below.refl _ _ | with_reducible assumption | with_reducible refine Below.drew ?_ | with_reducible refine Below.drewN ?_ _ | with_reducible refine Below.alloc ?_ ?_ _ | with_reducible refine Below.setCell ?_ ?_ _ | with_reducible refine Below.setRow ?_ ?_ _ | with_reducible refine below_step (by assumption) ?_ ?_ | (show (_ : Nat) ≤ _; first | omega | (simp <;> omega))), HN.out⟩ | ((repeat (with_reducible apply Exists.intro)); refine And.intro ?_ ?_; rotate_left; (focus ((repeat' (with_reducible apply And.intro)) <;> rfl)); exact ⟨k + 1, by omega, by go_num, by repeat' (first | with_reducible exact Below.refl _ _ | with_reducible assumption | with_reducible refine Below.drew ?_ | with_reducible refine Below.drewN ?_ _ | with_reducible refine Below.alloc ?_ ?_ _ | with_reducible refine Below.setCell ?_ ?_ _ | with_reducible refine Below.setRow ?_ ?_ _ | with_reducible refine below_step (by assumption) ?_ ?_ | (show (_ : Nat) ≤ _; first | omega | (simp <;> omega))), HN.out⟩)
        case measure => simp [intOf]; omega
      · have HV := Lib.hid (HO.out k xa xb hxa hxb hx)
        have h1 : ((tx xa).toList == (tx xb).toList) = false := by rw [tx_list, tx_list, beq_eq_false_iff_ne]; exact hx
        clear hxa hxb
        go_wp2
        go_quiet (fail)
        go_wp2
        go_ret
        exact ⟨by rw [HV.out]; rfl, by repeat' (first | with_reducible exact Below.refl _ _ | with_reducible assumption | with_reducible refine Below.drew ?_ | with_reducible refine Below.drewN ?_ _ | with_reducible refine Below.alloc ?_ ?_ _ | with_reducible refine Below.setCell ?_ ?_ _ | with_reducible refine Below.setRow ?_ ?_ _ | with_reducible refine below_step (by assumption) ?_ ?_ | (show (_ : Nat) ≤ _; first | omega | (simp <;> omega)))⟩
    · have hke : k = A.length := by omega
      subst hke
      have HV := Lib.hid (HE.out (fun j a b hj ha hb => HAL.out j a b hj ha hb))
      go_wp2
      go_ret
      exact ⟨by rw [HV.out]; rfl, by repeat' (first | with_reducible exact Below.refl _ _ | with_reducible assumption | with_reducible refine Below.drew ?_ | with_reducible refine Below.drewN ?_ _ | with_reducible refine Below.alloc ?_ ?_ _ | with_reducible refine Below.setCell ?_ ?_ _ | with_reducible refine Below.setRow ?_ ?_ _ | with_reducible refine below_step (by assumption) ?_ ?_ | (show (_ : Nat) ≤ _; first | omega | (simp <;> omega)))⟩
end Go.Proofs.YtejnejplofddnaaGreatDoor
