/- Places that were chosen, as a slice; an append that tells where its slice lies. No program. -/
import Derived.Test.YtkdfkhjoijfcdaaSlI
import Derived.Laws.AppendOwn
namespace Go.Proofs.Ytkdfkhjoijfcdaa
open Go.RowKit
set_option linter.unusedVariables false
set_option linter.unusedSimpArgs false
set_option maxRecDepth 100000
/-- The chosen ones among the first n places of a sheet so wide. -/
def selL (U : Nat → Bool) (W : Nat) : Nat → List Value
  | 0 => []
  | k + 1 => if U k = true then selL U W k ++ [.int .i8 ((k % W : Nat) : Int), .int .i8 ((k / W : Nat) : Int)] else selL U W k
def selN (U : Nat → Bool) : Nat → Nat
  | 0 => 0
  | k + 1 => if U k = true then selN U k + 1 else selN U k
theorem sel_yes {U : Nat → Bool} {W k : Nat} (h : U k = true) : selL U W (k + 1) = selL U W k ++ [.int .i8 ((k % W : Nat) : Int), .int .i8 ((k / W : Nat) : Int)] ∧ selN U (k + 1) = selN U k + 1 := ⟨if_pos h, if_pos h⟩
theorem sel_no {U : Nat → Bool} {W k : Nat} (h : U k = false) : selL U W (k + 1) = selL U W k ∧ selN U (k + 1) = selN U k := ⟨if_neg (by simp [h]), if_neg (by simp [h])⟩
theorem selN_le (U : Nat → Bool) : ∀ n, selN U n ≤ n
  | 0 => Nat.le_refl _
  | k + 1 => by
    have := selN_le U k
    rcases Bool.eq_false_or_eq_true (U k) with h | h
    · rw [(sel_yes (W := 0) h).2]; omega
    · rw [(sel_no (W := 0) h).2]; omega
theorem selL_len (U : Nat → Bool) (W : Nat) : ∀ n, (selL U W n).length = selN U n * 2
  | 0 => rfl
  | k + 1 => by
    have := selL_len U W k
    rcases Bool.eq_false_or_eq_true (U k) with h | h
    · rw [(sel_yes h).1, (sel_yes (W := W) h).2, List.length_append, this, Nat.succ_mul]; rfl
    · rw [(sel_no h).1, (sel_no (W := W) h).2, this]
theorem selL_int (U : Nat → Bool) (W : Nat) : ∀ n, ∀ u ∈ selL U W n, ∃ a : Int, u = .int .i8 a
  | 0, u, h => by cases h
  | k + 1, u, h => by
    have ih := selL_int U W k
    rcases Bool.eq_false_or_eq_true (U k) with e | e
    · rw [(sel_yes e).1, List.mem_append] at h
      rcases h with h | h
      · exact ih u h
      · simp at h
        rcases h with rfl | rfl <;> exact ⟨_, rfl⟩
    · rw [(sel_no e).1] at h
      exact ih u h
/-- All are chosen. -/
theorem sel_all {U : Nat → Bool} (W n : Nat) (h : ∀ i, i < n → U i = true) : selL U W n = spots W n ∧ selN U n = n := by
  induction n with
  | zero => exact ⟨rfl, rfl⟩
  | succ n ih =>
    obtain ⟨h1, h2⟩ := ih (fun i hi => h i (by omega))
    have hn := h n (by omega)
    rw [(sel_yes hn).1, (sel_yes (W := W) hn).2, h1, h2]
    refine ⟨?_, rfl⟩
    unfold spots
    rw [List.range_succ, List.flatMap_append]
    simp only [List.flatMap_cons, List.flatMap_nil, List.append_nil]
noncomputable def selE (U : Nat → Bool) (W n : Nat) (j : Nat) : Int := intOf (((selL U W n)[j]?).getD (.int .i64 0))
theorem selE_at (U : Nat → Bool) (W n : Nat) (j : Nat) (h : j < selN U n * 2) : (selL U W n)[j]? = some (.int .i8 (selE U W n j)) := by
  have hl : j < (selL U W n).length := by rw [selL_len]; exact h
  obtain ⟨a, ha⟩ := selL_int U W n _ (List.getElem_mem hl)
  unfold selE
  rw [List.getElem?_eq_getElem hl, ha]; rfl
section
variable {P : Program} (w : World)
theorem append_place (base : Nat) (t ty e : TypeId) (i : TypeInfo) (z : Value) (size bytes : Nat) (ht : P.underlying t = some (.slice e)) (hi : P.info? e = some i) (hz : i.zero = some z)
    (hsize : i.size = size) (hby : i.bytes = bytes) (hzs : z.cells.size = size) (g cap : Nat) (n : Nat) (xs : List Value) (hown : w.ownsRow base e size (.slice (some ⟨g, 0, none⟩) n cap) n xs)
    (a : Addr) (m c : Nat) (news : List Value) (hl : news.length = m * size) (hnews : ∀ j u, news[j]? = some u → w.cell? (a.add j) = some u) (h1 : ∀ u ∈ news, u.oneCell' = true)
    (h63 : n + m ≤ maxLen) (hbytes : (n + m) * bytes ≤ 140737488355328) {v' : Value} {w' : World} (hr : (Builtin.append_ #[t, t] ty #[.slice (some ⟨g, 0, none⟩) n cap, .slice (some a) m c]).run P w = .ok v' w') :
    ∃ b cap', v' = .slice (some ⟨b, 0, none⟩) (n + m) cap' ∧ (b = g ∨ w.heap.size ≤ b) := by
  subst hsize
  subst hby
  have hsmall : n + m ≤ 9223372036854775807 := by simp only [maxLen] at h63; omega
  rcases hown.2 with ⟨h, -⟩ | ⟨g', cap', cur, h, hbg, hg, hnc, hcm, hcs, htake⟩
  · cases h
  · cases h
    by_cases hroom : n + m ≤ cap
    · have hfit : n * i.size + news.length ≤ cur.size := by rw [hl, hcs, ← Nat.add_mul]; exact Nat.mul_le_mul_right _ hroom
      rw [run_append_room (P := P) w t ty e i ht hi g n cap cur hg a m c news hl hnews h1 hroom hfit] at hr
      cases hr
      exact ⟨g, _, rfl, .inl rfl⟩
    · have holds : ∀ j u, xs[j]? = some u → w.cell? ((⟨g, 0, none⟩ : Addr).add j) = some u := hown.cells (g := g) rfl
      rw [run_append_grow (P := P) w t ty e i z ht hi hz ⟨g, 0, none⟩ n cap xs hown.1 holds a m c news hl hnews (by omega) (by omega) (growslice_fits (by omega) hbytes)] at hr
      cases hr
      exact ⟨_, _, rfl, .inr (Nat.le_refl _)⟩
theorem wpList_append_at {ops : Array Oper} {rest : List Oper} {o : Oper} {a : Act} {Q : Exit → Act → World → Prop} (hgd : o.guard = none) (s x : Operand) (t : TypeId)
    (ho : o.op = .call { callee := .builtin .append, args := #[s, x], argTypes := #[t, t] })
    (base : Nat) (e : TypeId) (i : TypeInfo) (z : Value) (size bytes : Nat) (ht : P.underlying t = some (.slice e)) (hi : P.info? e = some i) (hz : i.zero = some z)
    (hsize : i.size = size) (hby : i.bytes = bytes) (hzs : z.cells.size = size) (hsz : 0 < size)
    (g cap : Nat) (n : Nat) (xs : List Value) (hs : a.eval s = .slice (some ⟨g, 0, none⟩) n cap) (hown : w.ownsRow base e size (.slice (some ⟨g, 0, none⟩) n cap) n xs)
    (ad : Addr) (m c : Nat) (news : List Value) (hx : a.eval x = .slice (some ad) m c) (hl : news.length = m * size) (hnews : ∀ j u, news[j]? = some u → w.cell? (ad.add j) = some u) (h1 : ∀ u ∈ news, u.oneCell' = true)
    (h63 : n + m ≤ maxLen) (hbytes : (n + m) * bytes ≤ 140737488355328) (hbase : base ≤ w.heap.size)
    (h : ∀ b cap' w', w'.ownsRow base e size (.slice (some ⟨b, 0, none⟩) (n + m) cap') (n + m) (xs ++ news) → w.grownBy w' (some g) → (b = g ∨ w.heap.size ≤ b) → wpList P ops Q rest (a.put o.dst (.slice (some ⟨b, 0, none⟩) (n + m) cap')) w') : wpList P ops Q (o :: rest) a w :=
  wpList_plain hgd fun _ hK => by
    obtain ⟨v', w', hr, h2, h3, -⟩ := run_append_own (P := P) w base t o.type e i z size bytes ht hi hz hsize hby hzs hsz _ n xs hown ad m c news hl hnews h1 h63 hbytes hbase
    obtain ⟨b, cap', rfl, hb⟩ := append_place (P := P) w base t o.type e i z size bytes ht hi hz hsize hby hzs g cap n xs hown ad m c news hl hnews h1 h63 hbytes hr
    unfold Oper.wp execOp
    simp only [ho, resolve, invoke, builtin, Sem.run_bind, Sem.run_pure, Result.andThen_ok, List.map_toArray, List.map_cons, List.map_nil, hs, hx, hr]
    exact hK _ _ (h b cap' w' h2 h3 hb)
end
end Go.Proofs.Ytkdfkhjoijfcdaa
