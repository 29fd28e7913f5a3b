/- The text of folds: the program. -/
import Derived.Test.YtkdfkhjoijfcdaaDoorFText
import Derived.Test.YtkdfkhjoijfcdaaDoorShelfB
import Derived.Test.YtkdfkhjoijfcdaaDoorInks
import Derived.Test.YtkdfkhjoijfcdaaDoorHeld
namespace Go.Proofs.YtkdfkhjoijfcdaaDoor
open Go.RowKit
set_option linter.unusedVariables false
set_option linter.unusedSimpArgs false
set_option maxRecDepth 100000
section
variable {P : Program} {ops : Array Oper}
/-- One append to a row of one's own, met among operations in any order. -/
theorem wp_append_own {o : Oper} {a : Act} {w : World} {R : Act → World → Prop} {Q : Exit → Act → World → Prop} (s x : Operand) (t : TypeId)
    (ho : o.op = .call { callee := .builtin .append, args := #[s, x], argTypes := #[t, t] })
    (base : Nat) (e : TypeId) (i : TypeInfo) (z : Value) (size bytes : Nat) (ht : P.underlying t = some (.slice e)) (hi : P.info? e = some i) (hz : i.zero = some z)
    (hsize : i.size = size) (hby : i.bytes = bytes) (hzs : z.cells.size = size) (hsz : 0 < size)
    (v : Value) (n : Nat) (xs : List Value) (hs : a.eval s = v) (hown : w.ownsRow base e size v n xs)
    (ad : Addr) (m c : Nat) (news : List Value) (hx : a.eval x = .slice (some ad) m c) (hl : news.length = m * size) (hnews : ∀ j u, news[j]? = some u → w.cell? (ad.add j) = some u) (h1 : ∀ u ∈ news, u.oneCell' = true)
    (h63 : n + m ≤ maxLen) (hbytes : (n + m) * bytes ≤ 140737488355328) (hbase : base ≤ w.heap.size)
    (h : ∀ v' w', w'.ownsRow base e size v' (n + m) (xs ++ news) → w.grownBy w' v.ownBlock → R (a.put o.dst v') w') : o.wp P a w R Q := by
  obtain ⟨v', w', hr, h2, h3, -⟩ := run_append_own (P := P) (w := w) base t o.type e i z size bytes ht hi hz hsize hby hzs hsz v n xs hown ad m c news hl hnews h1 h63 hbytes hbase
  unfold Oper.wp execOp
  simp only [ho, resolve, invoke, builtin, Sem.run_bind, Sem.run_pure, Result.andThen_ok, List.map_toArray, List.map_cons, List.map_nil, hs, hx, hr]
  exact h v' w' h2 h3
theorem oper_hide {o : Oper} {a : Act} {w : World} {R : Act → World → Prop} {Q : Exit → Act → World → Prop} (h : ∀ R' : Act → World → Prop, (∀ a w, R a w → R' a w) → o.wp P a w R' Q) : o.wp P a w R Q := h R (fun _ _ h => h)
end
theorem grown_row {w w' : World} {row : Option Nat} (g : w.grownBy w' row) {k : Nat} (hk : k < w.heap.size) (hne : some k ≠ row) : rowOf w' k = rowOf w k := by unfold rowOf; rw [g.block k hk hne]
theorem owns_lt {w : World} {base : Nat} {e : TypeId} {size : Nat} {v : Value} {n : Nat} {xs : List Value} (h : w.ownsRow base e size v n xs) : ∀ k, v.ownBlock = some k → k < w.heap.size := by
  intro k hk
  rcases h.2 with ⟨rfl, _⟩ | ⟨g, cap, cur, rfl, hb, hg, _⟩
  · simp [Value.ownBlock] at hk
  · simp [Value.ownBlock] at hk; subst hk; exact (Array.getElem?_eq_some_iff.1 hg).1
theorem owns_slice {w : World} {base : Nat} {e : TypeId} {s : Nat} {v : Value} {n : Nat} {xs : List Value} (h : w.ownsRow base e s v n xs) (hn : 0 < n) : ∃ g cap, v = .slice (some ⟨g, 0, none⟩) n cap := by
  rcases h.2 with ⟨rfl, h0⟩ | ⟨g, cap, cur, rfl, _⟩
  · omega
  · exact ⟨g, cap, rfl⟩
def strV (l : List (List UInt8)) : List Value := l.map fun x => .string (tx x)
theorem join_is (F : Nat → Fd) (n : Nat) : Lib.join (((foldW F n).map tx).map (·.data.toList)) (tx [32]).data.toList = foldsTx F n := by
  have e : ((foldW F n).map tx).map (·.data.toList) = foldW F n := by
    rw [List.map_map]
    exact (List.map_congr_left (fun l _ => by show (tx l).data.toList = l; unfold tx; rfl)).trans (List.map_id _)
  rw [e, ← foldW_join F n]; rfl
theorem owns_cells {w : World} {base : Nat} {e : TypeId} {g cap n : Nat} {l : List (List UInt8)} (h : w.ownsRow base e 1 (.slice (some ⟨g, 0, none⟩) n cap) n (strV l)) : g < w.heap.size ∧ n ≤ cap ∧ ∀ (j : Nat) x, (l.map tx)[j]? = some x → w.cell? ⟨g, 0 + j, none⟩ = some (.string x) := by
  obtain ⟨hl, ⟨h0, -⟩ | ⟨g', cap', cur, hv, hb, hg, h1, h2, h3, ht⟩⟩ := h
  · cases h0
  · simp only [Value.slice.injEq, Option.some.injEq, Addr.mk.injEq] at hv
    obtain ⟨⟨rfl, -, -⟩, -, rfl⟩ := hv
    refine ⟨(Array.getElem?_eq_some_iff.1 hg).1, h1, fun j x hx => ?_⟩
    have hrow : rowOf w g = cur := by simp [rowOf, hg, objRow]
    rw [cell_row, hrow, Nat.zero_add, ← Array.getElem?_toList]
    have hj : j < n := by
      have := (List.getElem?_eq_some_iff.1 hx).1
      have h4 : (strV l).length = n := by rw [hl]; omega
      unfold strV at h4
      simp at this h4
      omega
    have := congrArg (fun q => q[j]?) ht
    simp only [List.getElem?_take] at this
    rw [if_pos (by omega)] at this
    rw [this]
    unfold strV
    rw [List.getElem?_map] at hx ⊢
    cases hlj : l[j]? with
    | none => rw [hlj] at hx; cases hx
    | some y => rw [hlj] at hx; simp at hx; subst hx; rfl
theorem str_info : ∃ i z, Tryd.prog.info? 9 = some i ∧ i.zero = some z ∧ i.size = 1 ∧ i.bytes = 16 ∧ z.cells.size = 1 := by
  have h : (match Tryd.prog.info? 9 with | some i => (match i.zero with | some z => i.size == 1 && i.bytes == 16 && z.cells.size == 1 | none => false) | none => false) = true := by kernel_rfl
  split at h
  · rename_i i hi
    split at h
    · rename_i z hz
      simp only [Bool.and_eq_true, beq_iff_eq] at h
      exact ⟨i, z, hi, hz, h.1.1, h.1.2, h.2⟩
    · cases h
  · cases h
end Go.Proofs.YtkdfkhjoijfcdaaDoor
