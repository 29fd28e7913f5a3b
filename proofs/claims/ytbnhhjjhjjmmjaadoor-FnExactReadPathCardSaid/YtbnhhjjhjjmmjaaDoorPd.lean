/- Several texts in one: PRead PReadI PReadS. -/
import Derived.Test.YtbnhhjjhjjmmjaaDoorRd
import Derived.Test.YtbnhhjjhjjmmjaaDoorPx
import Derived.Test.YtbnhhjjhjjmmjaaDoorOpenSl
import Derived.Maps.AppendAt
/- A path read from a text: plain. -/
namespace Go.Proofs.YtbnhhjjhjjmmjaaDoor
set_option linter.unusedVariables false
set_option linter.unusedSimpArgs false
set_option maxRecDepth 100000
def sideK (c : UInt8) : Nat := if c = 110 then 0 else if c = 101 then 1 else if c = 115 then 2 else if c = 119 then 3 else 4
theorem side_dir {c : UInt8} (h : sideK c < 4) : dirB (sideK c) = c := by
  unfold sideK at h ⊢
  split
  · rename_i e; rw [e]; rfl
  · split
    · rename_i e; rw [e]; rfl
    · split
      · rename_i e; rw [e]; rfl
      · split
        · rename_i e; rw [e]; rfl
        · rename_i e1 e2 e3 e4; rw [if_neg e1, if_neg e2, if_neg e3, if_neg e4] at h; omega
/-- The cells that steps go over. -/
def pt (x y : Int) (st : List UInt8) : Nat → Int × Int
  | 0 => (x, y)
  | k + 1 => nx (sideK (st.getD k 0)) (pt x y st k).1 (pt x y st k).2
def ptF (x y : Int) (st : List UInt8) : Nat → Int := fun j => if j % 2 = 0 then (pt x y st (j / 2)).1 else (pt x y st (j / 2)).2
theorem ptF_even (x y : Int) (st : List UInt8) (k : Nat) : ptF x y st (k * 2) = (pt x y st k).1 := by unfold ptF; rw [if_pos (by omega), show k * 2 / 2 = k from by omega]
theorem ptF_odd (x y : Int) (st : List UInt8) (k : Nat) : ptF x y st (k * 2 + 1) = (pt x y st k).2 := by unfold ptF; rw [if_neg (by omega), show (k * 2 + 1) / 2 = k from by omega]
theorem nx_in (k : Nat) {x y : Int} (hx : -128 ≤ x ∧ x ≤ 127) (hy : -128 ≤ y ∧ y ≤ 127) : (-128 ≤ (nx k x y).1 ∧ (nx k x y).1 ≤ 127) ∧ -128 ≤ (nx k x y).2 ∧ (nx k x y).2 ≤ 127 := by
  have hw : ∀ n : Int, -128 ≤ IntKind.i8.wrap n ∧ IntKind.i8.wrap n ≤ 127 := fun n => by simp only [IntKind.wrap, IntKind.bits, IntKind.signed]; simp; omega
  unfold nx
  split <;> first | exact ⟨hx, hw _⟩ | exact ⟨hw _, hy⟩
theorem pt_in {x y : Int} (hx : -128 ≤ x ∧ x ≤ 127) (hy : -128 ≤ y ∧ y ≤ 127) (st : List UInt8) : ∀ k, (-128 ≤ (pt x y st k).1 ∧ (pt x y st k).1 ≤ 127) ∧ -128 ≤ (pt x y st k).2 ∧ (pt x y st k).2 ≤ 127
  | 0 => ⟨hx, hy⟩
  | k + 1 => by have := pt_in hx hy st k; exact nx_in _ this.1 this.2
theorem ptF_in {x y : Int} (hx : -128 ≤ x ∧ x ≤ 127) (hy : -128 ≤ y ∧ y ≤ 127) (st : List UInt8) (j : Nat) : -128 ≤ ptF x y st j ∧ ptF x y st j ≤ 127 := by
  have := pt_in hx hy st (j / 2)
  unfold ptF
  split
  · exact this.1
  · exact this.2
def GoodTo (st : List UInt8) (m : Nat) : Prop := ∀ k, k < m → sideK (st.getD k 0) < 4
theorem nx_inj {x y : Int} (hx : 0 ≤ x ∧ x ≤ 7) (hy : 0 ≤ y ∧ y ≤ 7) {j m : Nat} (hj : j < 4) (hm : m < 4) (h : sameP (nx j x y) (nx m x y).1 (nx m x y).2 = true) : j = m := by
  have a1 : IntKind.i8.wrap (y - 1) = y - 1 := by simp only [IntKind.wrap, IntKind.bits, IntKind.signed] <;> simp <;> omega
  have a2 : IntKind.i8.wrap (x + 1) = x + 1 := by simp only [IntKind.wrap, IntKind.bits, IntKind.signed] <;> simp <;> omega
  have a3 : IntKind.i8.wrap (y + 1) = y + 1 := by simp only [IntKind.wrap, IntKind.bits, IntKind.signed] <;> simp <;> omega
  have a4 : IntKind.i8.wrap (x - 1) = x - 1 := by simp only [IntKind.wrap, IntKind.bits, IntKind.signed] <;> simp <;> omega
  rcases (show m = 0 ∨ m = 1 ∨ m = 2 ∨ m = 3 by omega) with rfl | rfl | rfl | rfl <;>
  rcases (show j = 0 ∨ j = 1 ∨ j = 2 ∨ j = 3 by omega) with rfl | rfl | rfl | rfl <;>
  first
  | rfl
  | (exfalso; simp only [sameP, nx, a1, a2, a3, a4, Bool.and_eq_true, decide_eq_true_eq] at h; omega)
theorem same_self (p : Int × Int) : sameP p p.1 p.2 = true := by unfold sameP; simp
theorem steps_pt {x y : Int} {st : List UInt8} {n : Nat} (hc : CellsTo (ptF x y st) n) : ∀ k, k < n → k ≤ st.length → GoodTo st k → stepsTx (ptF x y st) k = st.take k
  | 0, _, _, _ => rfl
  | k + 1, hk, hl, hg => by
    have hin := hc k (by omega)
    rw [ptF_even, ptF_odd] at hin
    have hs := hg k (by omega)
    have hnx : pt x y st (k + 1) = nx (sideK (st.getD k 0)) (pt x y st k).1 (pt x y st k).2 := rfl
    show stepsTx (ptF x y st) k ++ dirK (ptF x y st (k * 2)) (ptF x y st (k * 2 + 1)) (ptF x y st ((k + 1) * 2)) (ptF x y st ((k + 1) * 2 + 1)) 4 = _
    rw [steps_pt hc k (by omega) (by omega) (fun i hi => hg i (by omega)), ptF_even, ptF_odd, ptF_even, ptF_odd, hnx,
      dirK_is hin.1 hin.2 hs (same_self _) (fun j hj => by
        rcases Bool.eq_false_or_eq_true (sameP (nx j (pt x y st k).1 (pt x y st k).2) (nx (sideK (st.getD k 0)) (pt x y st k).1 (pt x y st k).2).1 (nx (sideK (st.getD k 0)) (pt x y st k).1 (pt x y st k).2).2) with h | h
        · have := nx_inj hin.1 hin.2 (by omega) hs h; omega
        · exact h),
      side_dir hs, List.take_add_one, List.getElem?_eq_getElem (by omega), List.getD_eq_getElem?_getD, List.getElem?_eq_getElem (by omega)]; rfl
open Classical in
noncomputable def sPT (x y : Nat) (s : List UInt8) : Option (Nat × Nat × List UInt8) := if GoodTo s s.length ∧ s.length < 80 ∧ toldB (ptF x y s) (s.length + 1) = true then some (x, y, s) else none
noncomputable def sPH (h s : List UInt8) : Option (Nat × Nat × List UInt8) :=
  match sp 44 h with
  | [u, v] => match numB u, numB v with
    | some x, some y => if x < 8 ∧ y < 8 then sPT x y s else none
    | _, _ => none
  | _ => none
noncomputable def sPath (t : List UInt8) : Option (Nat × Nat × List UInt8) :=
  match sp 32 t with
  | [h] => sPH h []
  | [h, s] => if s = [] then none else sPH h s
  | _ => none
def iX (t : List UInt8) : Int := IntKind.i8.wrap (pi8 (cut1 44 (cut1 32 t)))
def iY (t : List UInt8) : Int := IntKind.i8.wrap (pi8 (cut2 44 (cut1 32 t)))
theorem sPT_some {x y : Nat} {s : List UInt8} {q : Nat × Nat × List UInt8} (h : sPT x y s = some q) : q = (x, y, s) ∧ GoodTo s s.length ∧ s.length < 80 ∧ toldB (ptF x y s) (s.length + 1) = true := by
  unfold sPT at h
  split at h
  · rename_i hc
    simp only [Option.some.injEq] at h
    exact ⟨h.symm, hc⟩
  · cases h
theorem sPH_some {h s : List UInt8} {q : Nat × Nat × List UInt8} (hq : sPH h s = some q) : ∃ x y : Nat, x < 8 ∧ y < 8 ∧ h = [by8 (48 + (x : Int)), 44, by8 (48 + (y : Int))] ∧ q = (x, y, s) ∧ GoodTo s s.length ∧ s.length < 80 ∧ toldB (ptF x y s) (s.length + 1) = true := by
  unfold sPH at hq
  split at hq
  · rename_i u v hs
    split at hq
    · rename_i x y hx hy
      split at hq
      · rename_i hc
        refine ⟨x, y, hc.1, hc.2, ?_, sPT_some hq⟩
        rw [(sp_two hs).1, numB_small hx (by omega), numB_small hy (by omega)]; rfl
      · cases hq
    · cases hq
  · cases hq
theorem sPH_yes {x y : Nat} {s : List UInt8} (hx : x < 8) (hy : y < 8) (h1 : GoodTo s s.length) (h2 : s.length < 80) (h3 : toldB (ptF x y s) (s.length + 1) = true) : sPH [by8 (48 + (x : Int)), 44, by8 (48 + (y : Int))] s = some (x, y, s) := by
  unfold sPH
  have e : sp 44 [by8 (48 + (x : Int)), 44, by8 (48 + (y : Int))] = [[by8 (48 + (x : Int))], [by8 (48 + (y : Int))]] := by
    show sp 44 ([by8 (48 + (x : Int))] ++ 44 :: [by8 (48 + (y : Int))]) = _
    rw [sp_app (dig_no (by omega) (by decide)), sp_one (dig_no (by omega) (by decide))]
  rw [e]
  simp only [numB_dig (show x < 10 from by omega), numB_dig (show y < 10 from by omega)]
  rw [if_pos ⟨hx, hy⟩]
  unfold sPT
  rw [if_pos ⟨h1, h2, h3⟩]
theorem head_free {x y : Nat} (hx : x < 8) (hy : y < 8) : (32 : UInt8) ∉ [by8 (48 + (x : Int)), 44, by8 (48 + (y : Int))] := fun hm => by
  simp only [List.mem_cons, List.not_mem_nil, or_false] at hm
  rcases hm with e | e | e
  · exact by8_ne (by omega) (by decide) e
  · revert e; decide
  · exact by8_ne (by omega) (by decide) e
theorem head_cut {x y : Nat} (hx : x < 8) (hy : y < 8) : IntKind.i8.wrap (pi8 (cut1 44 [by8 (48 + (x : Int)), 44, by8 (48 + (y : Int))])) = x ∧ IntKind.i8.wrap (pi8 (cut2 44 [by8 (48 + (x : Int)), 44, by8 (48 + (y : Int))])) = y := by
  have e : [by8 (48 + (x : Int)), 44, by8 (48 + (y : Int))] = [by8 (48 + (x : Int))] ++ 44 :: [by8 (48 + (y : Int))] := rfl
  rw [e, (cut_app (dig_no (by omega) (by decide)) _).1, (cut_app (dig_no (by omega) (by decide)) _).2, pi8_dig (by omega), pi8_dig (by omega), wrap8_in (by omega), wrap8_in (by omega)]
  exact ⟨rfl, rfl⟩
theorem told_cells {f : Nat → Int} {n : Nat} (h : toldB f n = true) : CellsTo f n ∧ 1 ≤ n ∧ n ≤ 80 := by
  unfold toldB stepsB at h
  rw [Bool.and_eq_true, Bool.and_eq_true] at h
  have := inB_true.1 h.1.2
  exact ⟨cells8_to h.2, by omega, by omega⟩
theorem path_text {x y : Nat} {s : List UInt8} (hg : GoodTo s s.length) (ht : toldB (ptF x y s) (s.length + 1) = true) : pTx (ptF x y s) (s.length + 1) = [by8 (48 + (x : Int)), 44, by8 (48 + (y : Int))] ++ (if s = [] then [] else [32]) ++ s := by
  unfold pTx pathTx
  rw [if_pos ht, show s.length + 1 - 1 = s.length from rfl, steps_pt (told_cells ht).1 s.length (by omega) (Nat.le_refl _) hg, List.take_length]
  have e : headTx (ptF x y s) = [by8 (48 + (x : Int)), 44, by8 (48 + (y : Int))] := rfl
  rw [e]
  congr 2
  unfold gapTx
  cases s with
  | nil => rfl
  | cons c r => rw [if_pos (by simp), if_neg (by simp)]
theorem good_free {s : List UInt8} (h : GoodTo s s.length) : (32 : UInt8) ∉ s := fun hm => by
  obtain ⟨k, hk, he⟩ := List.getElem_of_mem hm
  have := h k hk
  rw [List.getD_eq_getElem?_getD, List.getElem?_eq_getElem hk, he] at this
  revert this
  decide
/-- The law. -/
theorem path_read (t : List UInt8) : (∃ (x y : Nat) (s : List UInt8), sPath t = some (x, y, s) ∧ iX t = x ∧ iY t = y ∧ cut2 32 t = s ∧ s.length < 80 ∧ GoodTo s s.length ∧ pTx (ptF x y s) (s.length + 1) = t) ∨
    (sPath t = none ∧ (GoodTo (cut2 32 t) (min (cut2 32 t).length 80) → pTx (ptF (iX t) (iY t) (cut2 32 t)) (min (cut2 32 t).length 80 + 1) ≠ t)) := by
  cases hs : sPath t with
  | some q =>
    refine .inl ?_
    unfold sPath at hs
    have key : ∀ h s, sPH h s = some q → (t = h ∧ s = [] ∨ (t = h ++ 32 :: s ∧ s ≠ [])) → ∃ (x y : Nat) (s : List UInt8), some q = some (x, y, s) ∧ iX t = x ∧ iY t = y ∧ cut2 32 t = s ∧ s.length < 80 ∧ GoodTo s s.length ∧ pTx (ptF x y s) (s.length + 1) = t := by
      intro h s hq ht
      obtain ⟨x, y, hx, hy, rfl, rfl, h1, h2, h3⟩ := sPH_some hq
      refine ⟨x, y, s, rfl, ?_⟩
      have hf := head_free hx hy
      have hc : cut1 32 t = [by8 (48 + (x : Int)), 44, by8 (48 + (y : Int))] ∧ cut2 32 t = s := by
        rcases ht with ⟨rfl, rfl⟩ | ⟨rfl, -⟩
        · exact cut_miss hf
        · exact cut_app hf s
      unfold iX iY
      rw [hc.1, hc.2]
      refine ⟨(head_cut hx hy).1, (head_cut hx hy).2, rfl, h2, h1, ?_⟩
      rw [path_text h1 h3]
      rcases ht with ⟨rfl, rfl⟩ | ⟨rfl, hne⟩
      · rfl
      · rw [if_neg hne]; simp
    split at hs
    · rename_i h hsp
      exact key h [] hs (.inl ⟨by have := join_sp 32 t; rw [hsp, Lib.join_one] at this; exact this.symm, rfl⟩)
    · rename_i h s hsp
      split at hs
      · cases hs
      · rename_i hne
        exact key h s hs (.inr ⟨(sp_two hsp).1, hne⟩)
    · cases hs
  | none =>
    refine .inr ⟨rfl, fun hg he => ?_⟩
    generalize hst : cut2 32 t = s at *
    have hin : ∀ n : Int, -128 ≤ IntKind.i8.wrap n ∧ IntKind.i8.wrap n ≤ 127 := fun n => by simp only [IntKind.wrap, IntKind.bits, IntKind.signed]; simp; omega
    by_cases hb : toldB (ptF (iX t) (iY t) s) (min s.length 80 + 1) = true
    · obtain ⟨hc, h1, h80⟩ := told_cells hb
      have hl : s.length < 80 := by omega
      have hm : min s.length 80 = s.length := by omega
      rw [hm] at hg he hb
      have h00 := hc 0 (by omega)
      rw [ptF_even, ptF_odd] at h00
      have ha : iX t = ((iX t).toNat : Int) := (Int.toNat_of_nonneg h00.1.1).symm
      have hbb : iY t = ((iY t).toNat : Int) := (Int.toNat_of_nonneg h00.2.1).symm
      have ha7 : (iX t).toNat < 8 := by have := h00.1.2; have e : (pt (iX t) (iY t) s 0).1 = iX t := rfl; rw [e] at this; omega
      have hb7 : (iY t).toNat < 8 := by have := h00.2.2; have e : (pt (iX t) (iY t) s 0).2 = iY t := rfl; rw [e] at this; omega
      rw [ha, hbb] at he hb
      generalize (iX t).toNat = a at he hb ha7
      generalize (iY t).toNat = b at he hb hb7
      rw [path_text hg hb] at he
      have hf := head_free ha7 hb7
      have hy := sPH_yes ha7 hb7 hg hl hb
      unfold sPath at hs
      by_cases hne : s = []
      · subst hne
        rw [if_pos rfl, List.append_nil, List.append_nil] at he
        rw [← he, sp_one hf] at hs
        simp only [hy] at hs
        cases hs
      · rw [if_neg hne] at he
        have he2 : [by8 (48 + (a : Int)), 44, by8 (48 + (b : Int))] ++ 32 :: s = t := by rw [← he]; simp
        rw [← he2, sp_app hf, sp_one (good_free hg)] at hs
        simp only [hy, if_neg hne] at hs
        cases hs
    · have ht : t = [] := by rw [← he]; unfold pTx; rw [if_neg hb]
      subst ht
      apply hb
      have e1 : s = [] := by rw [← hst]; rfl
      subst e1
      have e2 : iX [] = 0 := by rfl
      have e3 : iY [] = 0 := by rfl
      rw [e2, e3]
      show toldB (ptF 0 0 []) 1 = true
      rw [told_yes (fun i hi => by obtain rfl : i = 0 := by omega
                                   exact ⟨⟨by decide, by decide⟩, by decide, by decide⟩) (fun i h0 h1 => by omega)]; rfl
end Go.Proofs.YtbnhhjjhjjmmjaaDoor
/- A path read from a text: the program. -/
namespace Go.Proofs.YtbnhhjjhjjmmjaaDoor
open Go.RowKit Go.Sort
set_option linter.unusedVariables false
set_option linter.unusedSimpArgs false
set_option maxRecDepth 100000
def ptL (x y : Int) (s : List UInt8) : Nat → List Value
  | 0 => []
  | n + 1 => ptL x y s n ++ [.int .i8 (pt x y s n).1, .int .i8 (pt x y s n).2]
theorem ptL_len (x y : Int) (s : List UInt8) : ∀ n, (ptL x y s n).length = n * 2
  | 0 => rfl
  | n + 1 => by show (ptL x y s n ++ _).length = _; rw [List.length_append, ptL_len x y s n]; simp; omega
theorem ptL_at (x y : Int) (s : List UInt8) : ∀ n j, j < n * 2 → (ptL x y s n)[j]? = some (.int .i8 (ptF x y s j))
  | n + 1, j, hj => by
    show (ptL x y s n ++ _)[j]? = _
    by_cases h : j < n * 2
    · rw [List.getElem?_append_left (by rw [ptL_len]; exact h)]; exact ptL_at x y s n j h
    · rw [List.getElem?_append_right (by rw [ptL_len]; omega), ptL_len]
      rcases (by omega : j = n * 2 ∨ j = n * 2 + 1) with rfl | rfl
      · rw [Nat.sub_self, ptF_even]; rfl
      · rw [show n * 2 + 1 - n * 2 = 1 from by omega, ptF_odd]; rfl
theorem owns_path {w : World} {base : Nat} {e : TypeId} {v : Value} {x y : Int} {s : List UInt8} {n : Nat} (h : w.ownsRow base e 2 v n (ptL x y s n)) : OwnK .i8 2 w base v n (ptF x y s) := OwnK.of h (fun j hj => ptL_at x y s n j hj)
theorem owns_one2 (w : World) (e : TypeId) (a b : Value) : (w.alloc (.cells #[a, b] e)).ownsRow w.heap.size e 2 (.slice (some ⟨w.heap.size, 0, none⟩) 1 1) 1 [a, b] :=
  ⟨rfl, .inr ⟨w.heap.size, 1, #[a, b], rfl, Nat.le_refl _, by unfold World.alloc; exact Array.getElem?_push_size, Nat.le_refl _, by unfold maxLen; omega, rfl, rfl⟩⟩
theorem owns_pos {w : World} {base n s : Nat} {e : TypeId} {v : Value} {xs : List Value} (h : w.ownsRow base e s v n xs) (h0 : 0 < n) : ∃ g cap, v = .slice (some ⟨g, 0, none⟩) n cap ∧ base ≤ g ∧ g < w.heap.size ∧ n ≤ cap ∧ ∀ j, j < n * s → (rowOf w g)[j]? = xs[j]? := by
  obtain ⟨hl, ⟨rfl, rfl⟩ | ⟨g, cap, cur, rfl, hb, hg, h1, h2, h3, ht⟩⟩ := h
  · omega
  · have hrow : rowOf w g = cur := by simp [rowOf, hg, objRow]
    refine ⟨g, cap, rfl, hb, (Array.getElem?_eq_some_iff.1 hg).1, h1, fun j hj => ?_⟩
    rw [hrow, ← ht, List.getElem?_take, if_pos hj, Array.getElem?_toList]
def sKI (c : UInt8) : Int := if sideK c < 4 then (sideK c : Int) else -1
theorem index_side (c : UInt8) : Lib.indexByte [110, 101, 115, 119] c = sKI c := by
  unfold sKI sideK
  by_cases h0 : c = 110
  · subst h0; rfl
  by_cases h1 : c = 101
  · subst h1; rfl
  by_cases h2 : c = 115
  · subst h2; rfl
  by_cases h3 : c = 119
  · subst h3; rfl
  rw [if_neg h0, if_neg h1, if_neg h2, if_neg h3, if_neg (by omega)]
  have e : ∀ b : UInt8, c ≠ b → (b == c) = false := fun b h => beq_false_of_ne (fun e => h e.symm)
  simp [Lib.indexByte, e _ h0, e _ h1, e _ h2, e _ h3]
/-- What both readers give. -/
noncomputable def rpN (l : List UInt8) : Nat := match sPath l with | some (_, _, s) => s.length + 1 | none => 0
noncomputable def rpC (l : List UInt8) : Int := match sPath l with | some _ => 0 | none => 5
noncomputable def rpF (l : List UInt8) : Nat → Int := match sPath l with | some (x, y, s) => ptF x y s | none => fun _ => 0
theorem rp_some {l : List UInt8} {x y : Nat} {s : List UInt8} (h : sPath l = some (x, y, s)) : rpN l = s.length + 1 ∧ rpC l = 0 ∧ rpF l = ptF x y s := by unfold rpN rpC rpF; rw [h]; exact ⟨rfl, rfl, rfl⟩
theorem rp_none {l : List UInt8} (h : sPath l = none) : rpN l = 0 ∧ rpC l = 5 := by unfold rpN rpC; rw [h]; exact ⟨rfl, rfl⟩
theorem rp_yes {l : List UInt8} (hg : GoodTo (cut2 32 l) (min (cut2 32 l).length 80)) (hp : pTx (ptF (iX l) (iY l) (cut2 32 l)) (min (cut2 32 l).length 80 + 1) = l) : rpN l = min (cut2 32 l).length 80 + 1 ∧ rpC l = 0 ∧ rpF l = ptF (iX l) (iY l) (cut2 32 l) := by
  rcases path_read l with ⟨x, y, s, h1, h2, h3, h4, h5, -, -⟩ | ⟨-, h2⟩
  · rw [h2, h3, h4, show min s.length 80 = s.length from by omega]; exact rp_some h1
  · exact absurd hp (h2 hg)
theorem rp_bad {l : List UInt8} (hg : ¬ GoodTo (cut2 32 l) (min (cut2 32 l).length 80)) : rpN l = 0 ∧ rpC l = 5 := by
  rcases path_read l with ⟨x, y, s, h1, h2, h3, h4, h5, h6, -⟩ | ⟨h1, -⟩
  · rw [h4, show min s.length 80 = s.length from by omega] at hg; exact absurd h6 hg
  · exact rp_none h1
theorem rp_ne {l : List UInt8} (hp : pTx (ptF (iX l) (iY l) (cut2 32 l)) (min (cut2 32 l).length 80 + 1) ≠ l) : rpN l = 0 ∧ rpC l = 5 := by
  rcases path_read l with ⟨x, y, s, h1, h2, h3, h4, h5, h6, h7⟩ | ⟨h1, -⟩
  · rw [h2, h3, h4, show min s.length 80 = s.length from by omega] at hp; exact absurd h7 hp
  · exact rp_none h1
theorem nx_row (x y : Int) {j : Nat} (hj : j < 4) : (#[Value.int .i8 (nx 0 x y).1, .int .i8 (nx 0 x y).2, .int .i8 (nx 1 x y).1, .int .i8 (nx 1 x y).2, .int .i8 (nx 2 x y).1, .int .i8 (nx 2 x y).2, .int .i8 (nx 3 x y).1, .int .i8 (nx 3 x y).2] : Array Value)[j * 2]? = some (.int .i8 (nx j x y).1) ∧ (#[Value.int .i8 (nx 0 x y).1, .int .i8 (nx 0 x y).2, .int .i8 (nx 1 x y).1, .int .i8 (nx 1 x y).2, .int .i8 (nx 2 x y).1, .int .i8 (nx 2 x y).2, .int .i8 (nx 3 x y).1, .int .i8 (nx 3 x y).2] : Array Value)[j * 2 + 1]? = some (.int .i8 (nx j x y).2) := by
  rcases (by omega : j = 0 ∨ j = 1 ∨ j = 2 ∨ j = 3) with rfl | rfl | rfl | rfl <;> exact ⟨rfl, rfl⟩
theorem owns_down {w : World} {base b' n s : Nat} {e : TypeId} {v : Value} {xs : List Value} (h : w.ownsRow base e s v n xs) (hb : b' ≤ base) : w.ownsRow b' e s v n xs := by
  obtain ⟨hl, h0 | ⟨g, cap, cur, rfl, h1, h2⟩⟩ := h
  · exact ⟨hl, .inl h0⟩
  · exact ⟨hl, .inr ⟨g, cap, cur, rfl, Nat.le_trans hb h1, h2⟩⟩
theorem good_next {s : List UInt8} {k : Nat} {c : UInt8} (h : GoodTo s k) (hc : s[k]? = some c) (hs : sideK c < 4) : GoodTo s (k + 1) := fun i hi => by
  rcases Nat.lt_succ_iff_lt_or_eq.1 hi with h2 | rfl
  · exact h i h2
  · rw [List.getD_eq_getElem?_getD, hc]; exact hs
theorem good_bad {s : List UInt8} {k m : Nat} {c : UInt8} (hk : k < m) (hc : s[k]? = some c) (hs : ¬ sideK c < 4) : ¬ GoodTo s m := fun h => hs (by
  have := h k hk
  rwa [List.getD_eq_getElem?_getD, hc] at this)
theorem pt_next {x y : Int} {s : List UInt8} {k : Nat} {c : UInt8} (hc : s[k]? = some c) : ptL x y s (k + 1 + 1) = ptL x y s (k + 1) ++ [.int .i8 (nx (sideK c) (pt x y s k).1 (pt x y s k).2).1, .int .i8 (nx (sideK c) (pt x y s k).1 (pt x y s k).2).2] := by
  show ptL x y s (k + 1) ++ [.int .i8 (nx (sideK (s.getD k 0)) (pt x y s k).1 (pt x y s k).2).1, .int .i8 (nx (sideK (s.getD k 0)) (pt x y s k).1 (pt x y s k).2).2] = _
  rw [List.getD_eq_getElem?_getD, hc]; rfl
theorem side_any (c : UInt8) (w : World) : Calls Tryd.prog 80 #[.string (tx [110, 101, 115, 119]), .int .u8 (c.toNat : Int)] w fun e w' => e = .returned (.int .i64 (sKI c)) ∧ w' = w := by
  refine (Tryd.strings_IndexByte (tx [110, 101, 115, 119]) (c.toNat : Int) w).mono fun e w' h => ?_
  refine ⟨?_, h.2⟩
  rw [h.1, ← index_side]
  have e1 : ((c.toNat : Int).toNat.toUInt8) = c := by
    apply UInt8.toNat_inj.1
    have := c.toNat_lt
    simp [Nat.toUInt8]
  rw [e1]; rfl
set_option maxHeartbeats 8000000 in
theorem iReadPath_any (l : List UInt8) (hl : l.length ≤ 1048576) (w : World) (h : RdW w) :
    Calls Tryd.prog 31 #[.string (tx l)] w fun e w' => ∃ v, e = .returned (.tuple #[v, .int .i64 (rpC l)]) ∧ OwnK .i8 2 w' w.heap.size v (rpN l) (rpF l) ∧ Below w.heap.size w w' := by
  obtain ⟨i0, z0, hi0, hz0, hs0, hb0, hc0⟩ := spot_info
  have HI := Lib.hid (And.intro hi0 (And.intro hz0 (And.intro hs0 (And.intro hb0 hc0))))
  clear hi0 hz0 hs0 hb0 hc0
  have HR := Lib.hid h
  clear h
  have HY := Lib.hid (fun h1 h2 => rp_yes (l := l) h1 h2)
  have HB := Lib.hid (fun h => rp_bad (l := l) h)
  have HN := Lib.hid (fun h => rp_ne (l := l) h)
  have hc1 := cut1_len 32 l
  have hc2 := cut2_len 32 l
  have hc3 := cut1_len 44 (cut1 32 l)
  have hc4 := cut2_len 44 (cut1 32 l)
  have HC1 := Lib.hid (fun w h => cut_any 32 l hl w h)
  have HC2 := Lib.hid (fun w h => cut_any 44 (cut1 32 l) (by omega) w h)
  have HP1 := Lib.hid (fun w h => parse8_any (cut1 44 (cut1 32 l)) (by omega) w h)
  have HP2 := Lib.hid (fun w h => parse8_any (cut2 44 (cut1 32 l)) (by omega) w h)
  have hX : IntKind.i8.wrap (pi8 (cut1 44 (cut1 32 l))) = iX l := rfl
  have hY : IntKind.i8.wrap (pi8 (cut2 44 (cut1 32 l))) = iY l := rfl
  have hXb : -128 ≤ iX l ∧ iX l ≤ 127 := by rw [← hX]; simp only [IntKind.wrap, IntKind.bits, IntKind.signed]; simp; omega
  have hYb : -128 ≤ iY l ∧ iY l ≤ 127 := by rw [← hY]; simp only [IntKind.wrap, IntKind.bits, IntKind.signed]; simp; omega
  generalize iX l = X at *
  generalize iY l = Y at *
  generalize cut1 44 (cut1 32 l) = y1 at *
  generalize cut2 44 (cut1 32 l) = y2 at *
  generalize pi8 y1 = p1 at *
  generalize pi8 y2 = p2 at *
  generalize cut1 32 l = hd at *
  generalize cut2 32 l = s at *
  clear hc1 hc3 hc4
  have hmin : min (s.length : Int) 80 = ((min s.length 80 : Nat) : Int) := by omega
  go_enter Tryd.func31, Tryd.ntmps31
  go_wp2_with (go_at_call 78; with_reducible refine (HC1.out _ (HR.out.below (by repeat' (first | with_reducible exact Below.refl _ _ | with_reducible assumption | with_reducible refine Below.drew ?_ | with_reducible refine Below.drewN ?_ _ | with_reducible refine Below.alloc ?_ ?_ _ | with_reducible refine Below.setCell ?_ ?_ _ | with_reducible refine Below.setRow ?_ ?_ _ | with_reducible refine below_step (by assumption) ?_ ?_ | (show (_ : Nat) ≤ _; first | omega | (simp <;> omega)))))).mono ?_; rintro e w1 ⟨ok1, rfl, hb1⟩; have r_hb1 := keep_rowA hb1; have f_hb1 := keep_frA hb1; have s_hb1 := hb1.size; (try simp only [World.size_alloc, World.size_setCell, setRow_size, World.size_drew, size_drewNm] at r_hb1 f_hb1 s_hb1))
  go_wp2_with (go_at_call 78; with_reducible refine (HC2.out _ (HR.out.below (by repeat' (first | with_reducible exact Below.refl _ _ | with_reducible assumption | with_reducible refine Below.drew ?_ | with_reducible refine Below.drewN ?_ _ | with_reducible refine Below.alloc ?_ ?_ _ | with_reducible refine Below.setCell ?_ ?_ _ | with_reducible refine Below.setRow ?_ ?_ _ | with_reducible refine below_step (by assumption) ?_ ?_ | (show (_ : Nat) ≤ _; first | omega | (simp <;> omega)))))).mono ?_; rintro e w2 ⟨ok2, rfl, hb2⟩; have r_hb2 := keep_rowA hb2; have f_hb2 := keep_frA hb2; have s_hb2 := hb2.size; (try simp only [World.size_alloc, World.size_setCell, setRow_size, World.size_drew, size_drewNm] at r_hb2 f_hb2 s_hb2))
  go_wp2_with (go_at_call 79; with_reducible refine (HP1.out _ (HR.out.below (by repeat' (first | with_reducible exact Below.refl _ _ | with_reducible assumption | with_reducible refine Below.drew ?_ | with_reducible refine Below.drewN ?_ _ | with_reducible refine Below.alloc ?_ ?_ _ | with_reducible refine Below.setCell ?_ ?_ _ | with_reducible refine Below.setRow ?_ ?_ _ | with_reducible refine below_step (by assumption) ?_ ?_ | (show (_ : Nat) ≤ _; first | omega | (simp <;> omega)))))).mono ?_; rintro e w3 ⟨er1, rfl, hb3⟩; have r_hb3 := keep_rowA hb3; have f_hb3 := keep_frA hb3; have s_hb3 := hb3.size; (try simp only [World.size_alloc, World.size_setCell, setRow_size, World.size_drew, size_drewNm] at r_hb3 f_hb3 s_hb3))
  go_wp2_with (go_at_call 79; with_reducible refine (HP2.out _ (HR.out.below (by repeat' (first | with_reducible exact Below.refl _ _ | with_reducible assumption | with_reducible refine Below.drew ?_ | with_reducible refine Below.drewN ?_ _ | with_reducible refine Below.alloc ?_ ?_ _ | with_reducible refine Below.setCell ?_ ?_ _ | with_reducible refine Below.setRow ?_ ?_ _ | with_reducible refine below_step (by assumption) ?_ ?_ | (show (_ : Nat) ≤ _; first | omega | (simp <;> omega)))))).mono ?_; rintro e w4 ⟨er2, rfl, hb4⟩; have r_hb4 := keep_rowA hb4; have f_hb4 := keep_frA hb4; have s_hb4 := hb4.size; (try simp only [World.size_alloc, World.size_setCell, setRow_size, World.size_drew, size_drewNm] at r_hb4 f_hb4 s_hb4))
  go_loopw [48, 14] (fun i v wr => ∃ k : Nat, k ≤ min s.length 80 ∧ i = .int .i64 k ∧ wr.ownsRow w.heap.size 81 2 v (k + 1) (ptL X Y s (k + 1)) ∧ GoodTo s k ∧ Below w.heap.size w wr) (fun i v wr => 81 - (intOf i).toNat)
  case atStart => exact ⟨0, by omega, rfl, owns_down (owns_one2 w4 _ _ _) (by omega), fun k hk => by omega, by repeat' (first | with_reducible exact Below.refl _ _ | with_reducible assumption | with_reducible refine Below.drew ?_ | with_reducible refine Below.drewN ?_ _ | with_reducible refine Below.alloc ?_ ?_ _ | with_reducible refine Below.setCell ?_ ?_ _ | with_reducible refine Below.setRow ?_ ?_ _ | with_reducible refine below_step (by assumption) ?_ ?_ | (show (_ : Nat) ≤ _; first | omega | (simp <;> omega)))⟩
  case round =>
    obtain ⟨k, hk, rfl, hown, hgd, hb⟩ := hrel
    have hsz0 := hb.size
    obtain ⟨g, cap, rfl, hg1, hg2, hcap, hcells⟩ := owns_pos hown (Nat.succ_pos _)
    have HO := Lib.hid hown
    have HG := Lib.hid hgd
    clear hgd
    by_cases hlt : k < min s.length 80
    · have hks : k < s.length := by omega
      have hlt2 : (k : Int) < ((min s.length 80 : Nat) : Int) := by omega
      have hlt3 : (k : Int) < min (s.length : Int) 80 := by omega
      obtain ⟨c, hc0⟩ : ∃ c, s[k] = c := ⟨_, rfl⟩
      have hcx : s[k]? = some c := by rw [List.getElem?_eq_getElem hks, hc0]
      have hp0 : (rowOf wr g)[k * 2]? = some (.int .i8 (pt X Y s k).1) := by rw [hcells (k * 2) (by omega), ptL_at X Y s (k + 1) (k * 2) (by omega), ptF_even]
      have hp1 : (rowOf wr g)[k * 2 + 1]? = some (.int .i8 (pt X Y s k).2) := by rw [hcells (k * 2 + 1) (by omega), ptL_at X Y s (k + 1) (k * 2 + 1) (by omega), ptF_odd]
      have hpb := pt_in hXb hYb s k
      have HNX := Lib.hid (pt_next (x := X) (y := Y) hcx)
      have HIX0 := fun w => side_any c w
      generalize (pt X Y s k).1 = xk at *
      generalize (pt X Y s k).2 = yk at *
      clear hcells hown
      by_cases hs4 : sideK c < 4
      · have hk4 : sKI c = (sideK c : Int) := if_pos hs4
        rw [hk4] at HIX0
        have HGN := Lib.hid (good_next HG.out hcx hs4)
        have hnr := nx_row xk yk hs4
        have hneg : ¬ (sideK c : Int) < 0 := by omega
        generalize sideK c = j at *
        have HIX := Lib.hid HIX0
        have HBS := Lib.hid (fun w => beside_any xk yk hpb.1 hpb.2 w)
        generalize (nx j xk yk).1 = xn at *
        generalize (nx j xk yk).2 = yn at *
        clear HIX0 hk4 hcx
        go_wp2_with (first | (go_at_call 80; refine (HIX.out _).mono ?_; rintro e wi ⟨rfl, rfl⟩) | (go_at_call 57; refine (HBS.out _).mono ?_; rintro e wb ⟨gb, rfl, hgb1, hgb2, hgr, hbb⟩; have r_hbb := keep_rowA hbb; have f_hbb := keep_frA hbb; have s_hbb := hbb.size; (try simp only [World.size_alloc, World.size_setCell, setRow_size, World.size_drew, size_drewNm] at r_hbb f_hbb s_hbb); have hnr0 := hnr.1; have hnr1 := hnr.2; rw [← hgr] at hnr0 hnr1; obtain ⟨R2, hR2⟩ : ∃ R2, rowOf wb gb = R2 := ⟨_, rfl⟩; rw [hR2] at hnr0 hnr1; have hR2X : rowOfX wb gb = R2 := hR2; clear hgr hnr) | (at_builtin; refine wpList_append_own _ rfl _ _ 28 rfl w.heap.size 81 i0 z0 2 2 Tryd.underlying28 HI.out.1 HI.out.2.1 HI.out.2.2.1 HI.out.2.2.2.1 HI.out.2.2.2.2 (by decide) _ _ _ rfl ((owns_below HO.out (by repeat' (first | with_reducible exact Below.refl _ _ | with_reducible assumption | with_reducible refine Below.drew ?_ | with_reducible refine Below.drewN ?_ _ | with_reducible refine Below.alloc ?_ ?_ _ | with_reducible refine Below.setCell ?_ ?_ _ | with_reducible refine Below.setRow ?_ ?_ _ | with_reducible refine below_step (by assumption) ?_ ?_ | (show (_ : Nat) ≤ _; first | omega | (simp <;> omega))))).alloc _) ⟨wb.heap.size, 0, none⟩ 1 1 [.int .i8 xn, .int .i8 yn] rfl rfl ?c1 ?c2 ?c3 ?c4 ?c5 ?_))
        case c1 =>
          intro j u hj
          match j, hj with
          | 0, hj => simp at hj; subst hj; simp [Addr.add]
          | 1, hj => simp at hj; subst hj; simp [Addr.add]
        case c2 =>
          intro u hu
          simp at hu
          rcases hu with rfl | rfl <;> rfl
        case c3 => unfold maxLen; omega
        case c4 => omega
        case c5 => first | omega | (simp <;> omega)
        intro v' w2 hown' hgrow _
        have hbg : Below w.heap.size w w2 := below_grown (Below.alloc (by repeat' (first | with_reducible exact Below.refl _ _ | with_reducible assumption | with_reducible refine Below.drew ?_ | with_reducible refine Below.drewN ?_ _ | with_reducible refine Below.alloc ?_ ?_ _ | with_reducible refine Below.setCell ?_ ?_ _ | with_reducible refine Below.setRow ?_ ?_ _ | with_reducible refine below_step (by assumption) ?_ ?_ | (show (_ : Nat) ≤ _; first | omega | (simp <;> omega)))) (by omega) _) hgrow (owns_base (owns_below HO.out (Below.refl _ _))) (by first | omega | (simp <;> omega))
        rw [← HNX.out] at hown'
        have HBG := Lib.hid hbg
        have HW := Lib.hid hown'
        clear hbg hown' hgrow
        go_wp2
        go_roundw
        case rel => first | exact ⟨k + 1, by omega, by go_num, HW.out, HGN.out, HBG.out⟩ | ((repeat (with_reducible apply Exists.intro)); refine And.intro ?_ ?_; rotate_left; (focus ((repeat' (with_reducible apply And.intro)) <;> rfl)); exact ⟨k + 1, by omega, by go_num, HW.out, HGN.out, HBG.out⟩)
        case measure => simp [intOf]; omega
      · have hk4 : sKI c = -1 := if_neg hs4
        rw [hk4] at HIX0
        have HIX := Lib.hid HIX0
        have HRD := Lib.hid (HB.out (good_bad hlt hcx hs4))
        clear HIX0 hk4 hcx
        go_wp2_with (go_at_call 80; refine (HIX.out _).mono ?_; rintro e wi ⟨rfl, rfl⟩)
        refine bodyPost_ret (v := .tuple #[.slice none 0 0, .int .i64 5]) (res_tt rfl rfl rfl) rfl ⟨_, by rw [HRD.out.2], by rw [HRD.out.1]; exact .inl ⟨rfl, rfl⟩, by repeat' (first | with_reducible exact Below.refl _ _ | with_reducible assumption | with_reducible refine Below.drew ?_ | with_reducible refine Below.drewN ?_ _ | with_reducible refine Below.alloc ?_ ?_ _ | with_reducible refine Below.setCell ?_ ?_ _ | with_reducible refine Below.setRow ?_ ?_ _ | with_reducible refine below_step (by assumption) ?_ ?_ | (show (_ : Nat) ≤ _; first | omega | (simp <;> omega)))⟩
    · have hke : k = min s.length 80 := by omega
      have hlt2 : ¬ (k : Int) < ((min s.length 80 : Nat) : Int) := by omega
      have hlt3 : ¬ (k : Int) < min (s.length : Int) 80 := by omega
      have HV := Lib.hid (owns_path hown)
      have HGK := Lib.hid (show GoodTo s (min s.length 80) by rw [← hke]; exact HG.out)
      have HKE := Lib.hid hke
      have hk80 : k ≤ 80 := by omega
      have HT0 := fun w h => iPathText_any (some ⟨g, 0, none⟩) cap (k + 1) hcap (ptF X Y s) (by omega) (fun j _ => ptF_in hXb hYb s j) w h
      rw [← hke] at HY HN
      clear hcells hown
      by_cases hp : pTx (ptF X Y s) (k + 1) = l
      · have HRD := Lib.hid (HY.out (by rw [hke]; exact HGK.out) hp)
        rw [hp] at HT0
        have HT := Lib.hid HT0
        clear hp HT0 hke
        go_wp2_with (go_at_call 19; refine (HT.out _ (HV.out.below (by repeat' (first | with_reducible exact Below.refl _ _ | with_reducible assumption | with_reducible refine Below.drew ?_ | with_reducible refine Below.drewN ?_ _ | with_reducible refine Below.alloc ?_ ?_ _ | with_reducible refine Below.setCell ?_ ?_ _ | with_reducible refine Below.setRow ?_ ?_ _ | with_reducible refine below_step (by assumption) ?_ ?_ | (show (_ : Nat) ≤ _; first | omega | (simp <;> omega)))) (Nat.le_refl _)).slA).mono ?_; rintro e wf ⟨rfl, hbf⟩; have r_hbf := keep_rowA hbf; have f_hbf := keep_frA hbf; have s_hbf := hbf.size; (try simp only [World.size_alloc, World.size_setCell, setRow_size, World.size_drew, size_drewNm] at r_hbf f_hbf s_hbf))
        refine bodyPost_ret (v := .tuple #[.slice (some ⟨g, 0, none⟩) (k + 1) cap, .int .i64 0]) (res_tt rfl rfl rfl) rfl ⟨_, by rw [HRD.out.2.1], by rw [HRD.out.1, HRD.out.2.2]; exact HV.out.below (by repeat' (first | with_reducible exact Below.refl _ _ | with_reducible assumption | with_reducible refine Below.drew ?_ | with_reducible refine Below.drewN ?_ _ | with_reducible refine Below.alloc ?_ ?_ _ | with_reducible refine Below.setCell ?_ ?_ _ | with_reducible refine Below.setRow ?_ ?_ _ | with_reducible refine below_step (by assumption) ?_ ?_ | (show (_ : Nat) ≤ _; first | omega | (simp <;> omega)))) (Nat.le_refl _), by repeat' (first | with_reducible exact Below.refl _ _ | with_reducible assumption | with_reducible refine Below.drew ?_ | with_reducible refine Below.drewN ?_ _ | with_reducible refine Below.alloc ?_ ?_ _ | with_reducible refine Below.setCell ?_ ?_ _ | with_reducible refine Below.setRow ?_ ?_ _ | with_reducible refine below_step (by assumption) ?_ ?_ | (show (_ : Nat) ≤ _; first | omega | (simp <;> omega)))⟩
      · have HRD := Lib.hid (HN.out hp)
        have HT := Lib.hid HT0
        clear HT0 hke
        generalize pTx (ptF X Y s) (k + 1) = t2 at *
        have hnb : (t2 == l) = false := by rw [beq_eq_false_iff_ne]; exact hp
        go_wp2_with (go_at_call 19; refine (HT.out _ (HV.out.below (by repeat' (first | with_reducible exact Below.refl _ _ | with_reducible assumption | with_reducible refine Below.drew ?_ | with_reducible refine Below.drewN ?_ _ | with_reducible refine Below.alloc ?_ ?_ _ | with_reducible refine Below.setCell ?_ ?_ _ | with_reducible refine Below.setRow ?_ ?_ _ | with_reducible refine below_step (by assumption) ?_ ?_ | (show (_ : Nat) ≤ _; first | omega | (simp <;> omega)))) (Nat.le_refl _)).slA).mono ?_; rintro e wf ⟨rfl, hbf⟩; have r_hbf := keep_rowA hbf; have f_hbf := keep_frA hbf; have s_hbf := hbf.size; (try simp only [World.size_alloc, World.size_setCell, setRow_size, World.size_drew, size_drewNm] at r_hbf f_hbf s_hbf))
        refine bodyPost_ret (v := .tuple #[.slice none 0 0, .int .i64 5]) (res_tt rfl rfl rfl) rfl ⟨_, by rw [HRD.out.2], by rw [HRD.out.1]; exact .inl ⟨rfl, rfl⟩, by repeat' (first | with_reducible exact Below.refl _ _ | with_reducible assumption | with_reducible refine Below.drew ?_ | with_reducible refine Below.drewN ?_ _ | with_reducible refine Below.alloc ?_ ?_ _ | with_reducible refine Below.setCell ?_ ?_ _ | with_reducible refine Below.setRow ?_ ?_ _ | with_reducible refine below_step (by assumption) ?_ ?_ | (show (_ : Nat) ≤ _; first | omega | (simp <;> omega)))⟩
end Go.Proofs.YtbnhhjjhjjmmjaaDoor
/- A path read from a text: the reference. -/
namespace Go.Proofs.YtbnhhjjhjjmmjaaDoor
open Go.RowKit Go.Sort
set_option linter.unusedVariables false
set_option linter.unusedSimpArgs false
set_option maxRecDepth 100000
/-- The side found when j letters have been looked at. -/
def sdI (c : UInt8) (j : Nat) : Int := if sideK c < j then (sideK c : Int) else -1
theorem sdI_hit {c : UInt8} {j : Nat} (h : dirB j = c) (hj : j < 4) : sdI c (j + 1) = j := by
  unfold sdI
  have : sideK c = j := by
    subst h
    rcases (by omega : j = 0 ∨ j = 1 ∨ j = 2 ∨ j = 3) with rfl | rfl | rfl | rfl <;> rfl
  rw [this, if_pos (by omega)]
theorem sdI_miss {c : UInt8} {j : Nat} (h : dirB j ≠ c) (hj : j < 4) : sdI c (j + 1) = sdI c j := by
  unfold sdI
  by_cases hs : sideK c < j
  · rw [if_pos (by omega), if_pos hs]
  · by_cases he : sideK c = j
    · exact absurd (by rw [← he]; exact side_dir (by omega)) h
    · rw [if_neg (by omega), if_neg hs]
theorem nesw_at {j : Nat} (hj : j < 4) : ([110, 101, 115, 119] : List UInt8)[j]? = some (dirB j) := by
  rcases (by omega : j = 0 ∨ j = 1 ∨ j = 2 ∨ j = 3) with rfl | rfl | rfl | rfl <;> rfl
theorem sPath_many {l : List UInt8} (h : 2 < (sp 32 l).length) : sPath l = none := by
  unfold sPath
  split
  · rename_i e; rw [e] at h; simp at h
  · rename_i e; rw [e] at h; simp at h
  · rfl
theorem sPath_one {l h : List UInt8} (e : sp 32 l = [h]) : sPath l = sPH h [] := by unfold sPath; rw [e]
theorem sPath_two {l h s : List UInt8} (e : sp 32 l = [h, s]) (hs : s ≠ []) : sPath l = sPH h s := by unfold sPath; rw [e]; exact if_neg hs
theorem sPath_two0 {l h : List UInt8} (e : sp 32 l = [h, []]) : sPath l = none := by unfold sPath; rw [e]; exact if_pos rfl
theorem sPH_len {h s : List UInt8} (e : (sp 44 h).length ≠ 2) : sPH h s = none := by
  unfold sPH
  split
  · rename_i e2; rw [e2] at e; exact absurd rfl e
  · rfl
theorem sPH_none1 {h s u v : List UInt8} (e : sp 44 h = [u, v]) (hu : numB u = none) : sPH h s = none := by unfold sPH; rw [e]; simp only [hu]
theorem sPH_none2 {h s u v : List UInt8} (e : sp 44 h = [u, v]) (hv : numB v = none) : sPH h s = none := by unfold sPH; rw [e]; simp only [hv]; cases numB u <;> rfl
theorem sPH_num {h s u v : List UInt8} {a b : Nat} (e : sp 44 h = [u, v]) (hu : numB u = some a) (hv : numB v = some b) : sPH h s = if a < 8 ∧ b < 8 then sPT a b s else none := by unfold sPH; rw [e]; simp only [hu, hv]
theorem sPT_bad {a b : Nat} {s : List UInt8} (h : ¬ (GoodTo s s.length ∧ s.length < 80 ∧ toldB (ptF a b s) (s.length + 1) = true)) : sPT a b s = none := by unfold sPT; exact if_neg h
theorem sPT_yes {a b : Nat} {s : List UInt8} (h : GoodTo s s.length ∧ s.length < 80 ∧ toldB (ptF a b s) (s.length + 1) = true) : sPT a b s = some (a, b, s) := by unfold sPT; exact if_pos h
theorem own_none2 (w : World) (e : TypeId) {b : Nat} (hb : b ≤ w.heap.size) (f : Nat → Int) : OwnK .i8 2 (w.alloc (.cells #[] e)) b (.slice (some ⟨w.heap.size, 0, none⟩) 0 0) 0 f := (OwnK.of (owns_empty w e) (fun j hj => absurd hj (by omega))).down hb
theorem split32 (l : List UInt8) (hl : l.length ≤ 1048576) (w : World) : Calls Tryd.prog 75 #[.string (tx l), .int .u8 32] w fun e w' => ∃ v, e = .returned v ∧ w'.ownsRow w.heap.size 9 1 v (sp 32 l).length (strV (sp 32 l)) ∧ Below w.heap.size w w' := l01Split_any 32 l hl w
theorem split44 (l : List UInt8) (hl : l.length ≤ 1048576) (w : World) : Calls Tryd.prog 75 #[.string (tx l), .int .u8 44] w fun e w' => ∃ v, e = .returned v ∧ w'.ownsRow w.heap.size 9 1 v (sp 44 l).length (strV (sp 44 l)) ∧ Below w.heap.size w w' := l01Split_any 44 l hl w
@[go_sem ↓] theorem nesw_run (j : Nat) (k : IntKind) (w : World) : (Instr.index 9 (.string (ByteArray.mk #[110, 101, 115, 119])) (.int k (j : Int))).run Tryd.prog w = chR (([110, 101, 115, 119] : List UInt8)[j]?) w ((chX 9 (.string (tx [110, 101, 115, 119])) (.int k (j : Int))).run Tryd.prog w) := chr_at [110, 101, 115, 119] j k w
set_option maxHeartbeats 32000000 in
theorem sReadPath_any (l : List UInt8) (hl : l.length ≤ 1048576) (w : World) :
    Calls Tryd.prog 30 #[.string (tx l)] w fun e w' => ∃ v, e = .returned (.tuple #[v, .int .i64 (rpC l)]) ∧ OwnK .i8 2 w' w.heap.size v (rpN l) (rpF l) ∧ Below w.heap.size w w' := by
  obtain ⟨i0, z0, hi0, hz0, hs0, hb0, hc0⟩ := spot_info
  have HI := Lib.hid (And.intro hi0 (And.intro hz0 (And.intro hs0 (And.intro hb0 hc0))))
  clear hi0 hz0 hs0 hb0 hc0
  have HS := Lib.hid (fun w => split32 l hl w)
  have HM := Lib.hid (fun x (h : x ∈ sp 32 l) => seg_le h)
  by_cases hW2 : 2 < (sp 32 l).length
  · have HRD := Lib.hid (rp_none (sPath_many hW2))
    have hWp : 0 < (sp 32 l).length := by omega
    obtain ⟨h, hh0⟩ : ∃ h, (sp 32 l)[0] = h := ⟨_, rfl⟩
    have hW0 : (sp 32 l)[0]? = some h := by rw [List.getElem?_eq_getElem hWp, hh0]
    have hhl : h.length ≤ 1048576 := Nat.le_trans (HM.out h (by rw [← hh0]; exact List.getElem_mem hWp)) hl
    have HSP := Lib.hid (fun w => split44 h hhl w)
    have hPp : 0 < (sp 44 h).length := List.length_pos_iff.2 (sp_ne 44 h)
    have hW2' : (2 : Int) < ((sp 32 l).length : Int) := by omega
    clear hh0
    generalize sp 32 l = W at *
    generalize sp 44 h = P at *
    go_enter Tryd.func30, Tryd.ntmps30
    go_wp2_with (go_at_call 75; (with_reducible refine (HS.out _).mono ?_); rintro e w1 ⟨vW, rfl, hown, hb1⟩; have r_hb1 := keep_rowA hb1; have f_hb1 := keep_frA hb1; have s_hb1 := hb1.size; (try simp only [World.size_alloc, World.size_setCell, setRow_size, World.size_drew, size_drewNm] at r_hb1 f_hb1 s_hb1); obtain ⟨g, cap, rfl, hg1, hg2, hgr⟩ := own_strs hown hWp; have hr0 := hgr 0 _ hWp hW0; obtain ⟨R, hR⟩ : ∃ R, rowOf w1 g = R := ⟨_, rfl⟩; rw [hR] at hr0; have hRX : rowOfX w1 g = R := hR; clear hown hgr)
    go_wp2_with (go_at_call 75; (with_reducible refine (HSP.out _).mono ?_); rintro e wp ⟨vP, rfl, hownP, hbp⟩; have r_hbp := keep_rowA hbp; have f_hbp := keep_frA hbp; have s_hbp := hbp.size; (try simp only [World.size_alloc, World.size_setCell, setRow_size, World.size_drew, size_drewNm] at r_hbp f_hbp s_hbp); obtain ⟨g2, cap2, rfl, hg21, hg22, -⟩ := own_strs hownP hPp; clear hownP)
    refine bodyPost_ret (v := .tuple #[.slice (some ⟨wp.heap.size, 0, none⟩) 0 0, .int .i64 5]) (res_tt rfl rfl rfl) rfl ⟨_, by rw [HRD.out.2], by rw [HRD.out.1]; exact own_none2 _ _ (by first | omega | (have := hsz0; omega)) _, by repeat' (first | with_reducible exact Below.refl _ _ | with_reducible assumption | with_reducible refine Below.drew ?_ | with_reducible refine Below.drewN ?_ _ | with_reducible refine Below.alloc ?_ ?_ _ | with_reducible refine Below.setCell ?_ ?_ _ | with_reducible refine Below.setRow ?_ ?_ _ | with_reducible refine below_step (by assumption) ?_ ?_ | (show (_ : Nat) ≤ _; first | omega | (simp <;> omega)))⟩
  by_cases hW1 : (sp 32 l).length = 1
  case pos =>
    obtain ⟨h, hW⟩ : ∃ h, sp 32 l = [h] := by
      match sp 32 l, hW1 with
      | [h], _ => exact ⟨h, rfl⟩
    clear hW1
    have hhl : h.length ≤ 1048576 := Nat.le_trans (HM.out h (by rw [hW]; simp)) hl
    have HWW := Lib.hid hW
    rw [hW] at HS
    have HSP := Lib.hid (fun w => split44 h hhl w)
    have HM2 := Lib.hid (fun y (hy : y ∈ sp 44 h) => seg_le hy)
    clear hW hW2
    have HPH := Lib.hid (sPath_one HWW.out)
    by_cases h2 : (sp 44 h).length = 2
    case neg =>
      have HRD := Lib.hid (rp_none (HPH.out.trans (sPH_len h2)))
      have hPp : 0 < (sp 44 h).length := List.length_pos_iff.2 (sp_ne 44 h)
      have h2' : ((((sp 44 h).length : Nat) : Int) == 2) = false := by rw [beq_eq_false_iff_ne]; omega
      generalize sp 44 h = P at *
      go_enter Tryd.func30, Tryd.ntmps30
      go_wp2_with (go_at_call 75; (with_reducible refine (HS.out _).mono ?_); rintro e w1 ⟨vW, rfl, hown, hb1⟩; have r_hb1 := keep_rowA hb1; have f_hb1 := keep_frA hb1; have s_hb1 := hb1.size; (try simp only [World.size_alloc, World.size_setCell, setRow_size, World.size_drew, size_drewNm] at r_hb1 f_hb1 s_hb1); obtain ⟨g, cap, rfl, hg1, hg2, hgr⟩ := own_strs hown (Nat.succ_pos _); have hr0 := hgr 0 _ (Nat.succ_pos _) rfl; obtain ⟨R, hR⟩ : ∃ R, rowOf w1 g = R := ⟨_, rfl⟩; rw [hR] at hr0; have hRX : rowOfX w1 g = R := hR; clear hown hgr)
      go_wp2_with (go_at_call 75; (with_reducible refine (HSP.out _).mono ?_); rintro e wp ⟨vP, rfl, hownP, hbp⟩; have r_hbp := keep_rowA hbp; have f_hbp := keep_frA hbp; have s_hbp := hbp.size; (try simp only [World.size_alloc, World.size_setCell, setRow_size, World.size_drew, size_drewNm] at r_hbp f_hbp s_hbp); obtain ⟨g2, cap2, rfl, hg21, hg22, -⟩ := own_strs hownP hPp; clear hownP)
      refine bodyPost_ret (v := .tuple #[.slice (some ⟨wp.heap.size, 0, none⟩) 0 0, .int .i64 5]) (res_tt rfl rfl rfl) rfl ⟨_, by rw [HRD.out.2], by rw [HRD.out.1]; exact own_none2 _ _ (by first | omega | (have := hsz0; omega)) _, by repeat' (first | with_reducible exact Below.refl _ _ | with_reducible assumption | with_reducible refine Below.drew ?_ | with_reducible refine Below.drewN ?_ _ | with_reducible refine Below.alloc ?_ ?_ _ | with_reducible refine Below.setCell ?_ ?_ _ | with_reducible refine Below.setRow ?_ ?_ _ | with_reducible refine below_step (by assumption) ?_ ?_ | (show (_ : Nat) ≤ _; first | omega | (simp <;> omega)))⟩
    obtain ⟨u, v, hP⟩ : ∃ u v, sp 44 h = [u, v] := by
      match sp 44 h, h2 with
      | [u, v], _ => exact ⟨u, v, rfl⟩
    have hul : u.length ≤ 1048576 := Nat.le_trans (HM2.out u (by rw [hP]; simp)) hhl
    have hvl : v.length ≤ 1048576 := Nat.le_trans (HM2.out v (by rw [hP]; simp)) hhl
    have HP := Lib.hid hP
    rw [hP] at HSP
    clear hP h2
    obtain ⟨a, ba, hA, hA1, hA2⟩ := numV_is u
    obtain ⟨b, bb, hB, hB1, hB2⟩ := numV_is v
    have HNU := Lib.hid (fun w => hA ▸ l01Number_any u hul w)
    have HNV := Lib.hid (fun w => hB ▸ l01Number_any v hvl w)
    clear hA hB
    by_cases hf : ba = false
    · have HRD := Lib.hid (rp_none (HPH.out.trans (sPH_none1 HP.out (hA2 hf))))
      subst hf
      clear hA1 hA2 hB1 hB2
      go_enter Tryd.func30, Tryd.ntmps30
      go_wp2_with (go_at_call 75; (with_reducible refine (HS.out _).mono ?_); rintro e w1 ⟨vW, rfl, hown, hb1⟩; have r_hb1 := keep_rowA hb1; have f_hb1 := keep_frA hb1; have s_hb1 := hb1.size; (try simp only [World.size_alloc, World.size_setCell, setRow_size, World.size_drew, size_drewNm] at r_hb1 f_hb1 s_hb1); obtain ⟨g, cap, rfl, hg1, hg2, hgr⟩ := own_strs hown (Nat.succ_pos _); have hr0 := hgr 0 _ (Nat.succ_pos _) rfl; obtain ⟨R, hR⟩ : ∃ R, rowOf w1 g = R := ⟨_, rfl⟩; rw [hR] at hr0; have hRX : rowOfX w1 g = R := hR; clear hown hgr)
      go_wp2_with (first | (go_at_call 75; (with_reducible refine (HSP.out _).mono ?_); rintro e wp ⟨vP, rfl, hownP, hbp⟩; have r_hbp := keep_rowA hbp; have f_hbp := keep_frA hbp; have s_hbp := hbp.size; (try simp only [World.size_alloc, World.size_setCell, setRow_size, World.size_drew, size_drewNm] at r_hbp f_hbp s_hbp); obtain ⟨g2, cap2, rfl, hg21, hg22, hgr2⟩ := own_strs hownP (Nat.succ_pos _); have hp0 := hgr2 0 _ (Nat.succ_pos _) rfl; have hp1 := hgr2 1 _ (Nat.succ_lt_succ (Nat.succ_pos _)) rfl; obtain ⟨R2, hR2⟩ : ∃ R2, rowOf wp g2 = R2 := ⟨_, rfl⟩; rw [hR2] at hp0 hp1; have hR2X : rowOfX wp g2 = R2 := hR2; clear hownP hgr2) | (go_at_call 76; with_reducible refine (HNU.out _).mono ?_; rintro e wn ⟨rfl, hbn⟩; have r_hbn := keep_rowA hbn; have f_hbn := keep_frA hbn; have s_hbn := hbn.size; (try simp only [World.size_alloc, World.size_setCell, setRow_size, World.size_drew, size_drewNm] at r_hbn f_hbn s_hbn)) | (go_at_call 76; with_reducible refine (HNV.out _).mono ?_; rintro e wv ⟨rfl, hbv⟩; have r_hbv := keep_rowA hbv; have f_hbv := keep_frA hbv; have s_hbv := hbv.size; (try simp only [World.size_alloc, World.size_setCell, setRow_size, World.size_drew, size_drewNm] at r_hbv f_hbv s_hbv)))
      refine bodyPost_ret (v := .tuple #[.slice (some ⟨wv.heap.size, 0, none⟩) 0 0, .int .i64 5]) (res_tt rfl rfl rfl) rfl ⟨_, by rw [HRD.out.2], by rw [HRD.out.1]; exact own_none2 _ _ (by first | omega | (have := hsz0; omega)) _, by repeat' (first | with_reducible exact Below.refl _ _ | with_reducible assumption | with_reducible refine Below.drew ?_ | with_reducible refine Below.drewN ?_ _ | with_reducible refine Below.alloc ?_ ?_ _ | with_reducible refine Below.setCell ?_ ?_ _ | with_reducible refine Below.setRow ?_ ?_ _ | with_reducible refine below_step (by assumption) ?_ ?_ | (show (_ : Nat) ≤ _; first | omega | (simp <;> omega)))⟩
    obtain rfl : ba = true := by cases ba <;> first | rfl | (exact absurd rfl hf)
    clear hf
    by_cases hf : bb = false
    · have HRD := Lib.hid (rp_none (HPH.out.trans (sPH_none2 HP.out (hB2 hf))))
      subst hf
      clear hA1 hA2 hB1 hB2
      go_enter Tryd.func30, Tryd.ntmps30
      go_wp2_with (go_at_call 75; (with_reducible refine (HS.out _).mono ?_); rintro e w1 ⟨vW, rfl, hown, hb1⟩; have r_hb1 := keep_rowA hb1; have f_hb1 := keep_frA hb1; have s_hb1 := hb1.size; (try simp only [World.size_alloc, World.size_setCell, setRow_size, World.size_drew, size_drewNm] at r_hb1 f_hb1 s_hb1); obtain ⟨g, cap, rfl, hg1, hg2, hgr⟩ := own_strs hown (Nat.succ_pos _); have hr0 := hgr 0 _ (Nat.succ_pos _) rfl; obtain ⟨R, hR⟩ : ∃ R, rowOf w1 g = R := ⟨_, rfl⟩; rw [hR] at hr0; have hRX : rowOfX w1 g = R := hR; clear hown hgr)
      go_wp2_with (first | (go_at_call 75; (with_reducible refine (HSP.out _).mono ?_); rintro e wp ⟨vP, rfl, hownP, hbp⟩; have r_hbp := keep_rowA hbp; have f_hbp := keep_frA hbp; have s_hbp := hbp.size; (try simp only [World.size_alloc, World.size_setCell, setRow_size, World.size_drew, size_drewNm] at r_hbp f_hbp s_hbp); obtain ⟨g2, cap2, rfl, hg21, hg22, hgr2⟩ := own_strs hownP (Nat.succ_pos _); have hp0 := hgr2 0 _ (Nat.succ_pos _) rfl; have hp1 := hgr2 1 _ (Nat.succ_lt_succ (Nat.succ_pos _)) rfl; obtain ⟨R2, hR2⟩ : ∃ R2, rowOf wp g2 = R2 := ⟨_, rfl⟩; rw [hR2] at hp0 hp1; have hR2X : rowOfX wp g2 = R2 := hR2; clear hownP hgr2) | (go_at_call 76; with_reducible refine (HNU.out _).mono ?_; rintro e wn ⟨rfl, hbn⟩; have r_hbn := keep_rowA hbn; have f_hbn := keep_frA hbn; have s_hbn := hbn.size; (try simp only [World.size_alloc, World.size_setCell, setRow_size, World.size_drew, size_drewNm] at r_hbn f_hbn s_hbn)) | (go_at_call 76; with_reducible refine (HNV.out _).mono ?_; rintro e wv ⟨rfl, hbv⟩; have r_hbv := keep_rowA hbv; have f_hbv := keep_frA hbv; have s_hbv := hbv.size; (try simp only [World.size_alloc, World.size_setCell, setRow_size, World.size_drew, size_drewNm] at r_hbv f_hbv s_hbv)))
      refine bodyPost_ret (v := .tuple #[.slice (some ⟨wv.heap.size, 0, none⟩) 0 0, .int .i64 5]) (res_tt rfl rfl rfl) rfl ⟨_, by rw [HRD.out.2], by rw [HRD.out.1]; exact own_none2 _ _ (by first | omega | (have := hsz0; omega)) _, by repeat' (first | with_reducible exact Below.refl _ _ | with_reducible assumption | with_reducible refine Below.drew ?_ | with_reducible refine Below.drewN ?_ _ | with_reducible refine Below.alloc ?_ ?_ _ | with_reducible refine Below.setCell ?_ ?_ _ | with_reducible refine Below.setRow ?_ ?_ _ | with_reducible refine below_step (by assumption) ?_ ?_ | (show (_ : Nat) ≤ _; first | omega | (simp <;> omega)))⟩
    obtain rfl : bb = true := by cases bb <;> first | rfl | (exact absurd rfl hf)
    clear hf
    obtain ⟨a', rfl, hNA⟩ := hA1 rfl
    obtain ⟨b', rfl, hNB⟩ := hB1 rfl
    have HPN := Lib.hid (HPH.out.trans (sPH_num (s := []) HP.out hNA hNB))
    clear hA1 hA2 hB1 hB2 hNA hNB
    by_cases h8a : 8 ≤ a'
    · have HRD := Lib.hid (rp_none (HPN.out.trans (if_neg (by omega))))
      have h8i : (8 : Int) ≤ (a' : Int) := by omega
      go_enter Tryd.func30, Tryd.ntmps30
      go_wp2_with (go_at_call 75; (with_reducible refine (HS.out _).mono ?_); rintro e w1 ⟨vW, rfl, hown, hb1⟩; have r_hb1 := keep_rowA hb1; have f_hb1 := keep_frA hb1; have s_hb1 := hb1.size; (try simp only [World.size_alloc, World.size_setCell, setRow_size, World.size_drew, size_drewNm] at r_hb1 f_hb1 s_hb1); obtain ⟨g, cap, rfl, hg1, hg2, hgr⟩ := own_strs hown (Nat.succ_pos _); have hr0 := hgr 0 _ (Nat.succ_pos _) rfl; obtain ⟨R, hR⟩ : ∃ R, rowOf w1 g = R := ⟨_, rfl⟩; rw [hR] at hr0; have hRX : rowOfX w1 g = R := hR; clear hown hgr)
      go_wp2_with (first | (go_at_call 75; (with_reducible refine (HSP.out _).mono ?_); rintro e wp ⟨vP, rfl, hownP, hbp⟩; have r_hbp := keep_rowA hbp; have f_hbp := keep_frA hbp; have s_hbp := hbp.size; (try simp only [World.size_alloc, World.size_setCell, setRow_size, World.size_drew, size_drewNm] at r_hbp f_hbp s_hbp); obtain ⟨g2, cap2, rfl, hg21, hg22, hgr2⟩ := own_strs hownP (Nat.succ_pos _); have hp0 := hgr2 0 _ (Nat.succ_pos _) rfl; have hp1 := hgr2 1 _ (Nat.succ_lt_succ (Nat.succ_pos _)) rfl; obtain ⟨R2, hR2⟩ : ∃ R2, rowOf wp g2 = R2 := ⟨_, rfl⟩; rw [hR2] at hp0 hp1; have hR2X : rowOfX wp g2 = R2 := hR2; clear hownP hgr2) | (go_at_call 76; with_reducible refine (HNU.out _).mono ?_; rintro e wn ⟨rfl, hbn⟩; have r_hbn := keep_rowA hbn; have f_hbn := keep_frA hbn; have s_hbn := hbn.size; (try simp only [World.size_alloc, World.size_setCell, setRow_size, World.size_drew, size_drewNm] at r_hbn f_hbn s_hbn)) | (go_at_call 76; with_reducible refine (HNV.out _).mono ?_; rintro e wv ⟨rfl, hbv⟩; have r_hbv := keep_rowA hbv; have f_hbv := keep_frA hbv; have s_hbv := hbv.size; (try simp only [World.size_alloc, World.size_setCell, setRow_size, World.size_drew, size_drewNm] at r_hbv f_hbv s_hbv)))
      refine bodyPost_ret (v := .tuple #[.slice (some ⟨wv.heap.size, 0, none⟩) 0 0, .int .i64 5]) (res_tt rfl rfl rfl) rfl ⟨_, by rw [HRD.out.2], by rw [HRD.out.1]; exact own_none2 _ _ (by first | omega | (have := hsz0; omega)) _, by repeat' (first | with_reducible exact Below.refl _ _ | with_reducible assumption | with_reducible refine Below.drew ?_ | with_reducible refine Below.drewN ?_ _ | with_reducible refine Below.alloc ?_ ?_ _ | with_reducible refine Below.setCell ?_ ?_ _ | with_reducible refine Below.setRow ?_ ?_ _ | with_reducible refine below_step (by assumption) ?_ ?_ | (show (_ : Nat) ≤ _; first | omega | (simp <;> omega)))⟩
    have h8ai : ¬ (8 : Int) ≤ (a' : Int) := by omega
    by_cases h8b : 8 ≤ b'
    · have HRD := Lib.hid (rp_none (HPN.out.trans (if_neg (by omega))))
      have h8i : (8 : Int) ≤ (b' : Int) := by omega
      go_enter Tryd.func30, Tryd.ntmps30
      go_wp2_with (go_at_call 75; (with_reducible refine (HS.out _).mono ?_); rintro e w1 ⟨vW, rfl, hown, hb1⟩; have r_hb1 := keep_rowA hb1; have f_hb1 := keep_frA hb1; have s_hb1 := hb1.size; (try simp only [World.size_alloc, World.size_setCell, setRow_size, World.size_drew, size_drewNm] at r_hb1 f_hb1 s_hb1); obtain ⟨g, cap, rfl, hg1, hg2, hgr⟩ := own_strs hown (Nat.succ_pos _); have hr0 := hgr 0 _ (Nat.succ_pos _) rfl; obtain ⟨R, hR⟩ : ∃ R, rowOf w1 g = R := ⟨_, rfl⟩; rw [hR] at hr0; have hRX : rowOfX w1 g = R := hR; clear hown hgr)
      go_wp2_with (first | (go_at_call 75; (with_reducible refine (HSP.out _).mono ?_); rintro e wp ⟨vP, rfl, hownP, hbp⟩; have r_hbp := keep_rowA hbp; have f_hbp := keep_frA hbp; have s_hbp := hbp.size; (try simp only [World.size_alloc, World.size_setCell, setRow_size, World.size_drew, size_drewNm] at r_hbp f_hbp s_hbp); obtain ⟨g2, cap2, rfl, hg21, hg22, hgr2⟩ := own_strs hownP (Nat.succ_pos _); have hp0 := hgr2 0 _ (Nat.succ_pos _) rfl; have hp1 := hgr2 1 _ (Nat.succ_lt_succ (Nat.succ_pos _)) rfl; obtain ⟨R2, hR2⟩ : ∃ R2, rowOf wp g2 = R2 := ⟨_, rfl⟩; rw [hR2] at hp0 hp1; have hR2X : rowOfX wp g2 = R2 := hR2; clear hownP hgr2) | (go_at_call 76; with_reducible refine (HNU.out _).mono ?_; rintro e wn ⟨rfl, hbn⟩; have r_hbn := keep_rowA hbn; have f_hbn := keep_frA hbn; have s_hbn := hbn.size; (try simp only [World.size_alloc, World.size_setCell, setRow_size, World.size_drew, size_drewNm] at r_hbn f_hbn s_hbn)) | (go_at_call 76; with_reducible refine (HNV.out _).mono ?_; rintro e wv ⟨rfl, hbv⟩; have r_hbv := keep_rowA hbv; have f_hbv := keep_frA hbv; have s_hbv := hbv.size; (try simp only [World.size_alloc, World.size_setCell, setRow_size, World.size_drew, size_drewNm] at r_hbv f_hbv s_hbv)))
      refine bodyPost_ret (v := .tuple #[.slice (some ⟨wv.heap.size, 0, none⟩) 0 0, .int .i64 5]) (res_tt rfl rfl rfl) rfl ⟨_, by rw [HRD.out.2], by rw [HRD.out.1]; exact own_none2 _ _ (by first | omega | (have := hsz0; omega)) _, by repeat' (first | with_reducible exact Below.refl _ _ | with_reducible assumption | with_reducible refine Below.drew ?_ | with_reducible refine Below.drewN ?_ _ | with_reducible refine Below.alloc ?_ ?_ _ | with_reducible refine Below.setCell ?_ ?_ _ | with_reducible refine Below.setRow ?_ ?_ _ | with_reducible refine below_step (by assumption) ?_ ?_ | (show (_ : Nat) ≤ _; first | omega | (simp <;> omega)))⟩
    have h8bi : ¬ (8 : Int) ≤ (b' : Int) := by omega
    have HPT := Lib.hid (HPN.out.trans (if_pos ⟨by omega, by omega⟩))
    have hwa : IntKind.i8.wrap (a' : Int) = (a' : Int) := wrap8_in (by omega)
    have hwb : IntKind.i8.wrap (b' : Int) = (b' : Int) := wrap8_in (by omega)
    have haa : -128 ≤ (a' : Int) ∧ (a' : Int) ≤ 127 := by omega
    have hbb' : -128 ≤ (b' : Int) ∧ (b' : Int) ≤ 127 := by omega
    go_enter Tryd.func30, Tryd.ntmps30
    go_wp2_with (go_at_call 75; (with_reducible refine (HS.out _).mono ?_); rintro e w1 ⟨vW, rfl, hown, hb1⟩; have r_hb1 := keep_rowA hb1; have f_hb1 := keep_frA hb1; have s_hb1 := hb1.size; (try simp only [World.size_alloc, World.size_setCell, setRow_size, World.size_drew, size_drewNm] at r_hb1 f_hb1 s_hb1); obtain ⟨g, cap, rfl, hg1, hg2, hgr⟩ := own_strs hown (Nat.succ_pos _); have hr0 := hgr 0 _ (Nat.succ_pos _) rfl; obtain ⟨R, hR⟩ : ∃ R, rowOf w1 g = R := ⟨_, rfl⟩; rw [hR] at hr0; have hRX : rowOfX w1 g = R := hR; clear hown hgr)
    go_wp2_with (first | (go_at_call 75; (with_reducible refine (HSP.out _).mono ?_); rintro e wp ⟨vP, rfl, hownP, hbp⟩; have r_hbp := keep_rowA hbp; have f_hbp := keep_frA hbp; have s_hbp := hbp.size; (try simp only [World.size_alloc, World.size_setCell, setRow_size, World.size_drew, size_drewNm] at r_hbp f_hbp s_hbp); obtain ⟨g2, cap2, rfl, hg21, hg22, hgr2⟩ := own_strs hownP (Nat.succ_pos _); have hp0 := hgr2 0 _ (Nat.succ_pos _) rfl; have hp1 := hgr2 1 _ (Nat.succ_lt_succ (Nat.succ_pos _)) rfl; obtain ⟨R2, hR2⟩ : ∃ R2, rowOf wp g2 = R2 := ⟨_, rfl⟩; rw [hR2] at hp0 hp1; have hR2X : rowOfX wp g2 = R2 := hR2; clear hownP hgr2) | (go_at_call 76; with_reducible refine (HNU.out _).mono ?_; rintro e wn ⟨rfl, hbn⟩; have r_hbn := keep_rowA hbn; have f_hbn := keep_frA hbn; have s_hbn := hbn.size; (try simp only [World.size_alloc, World.size_setCell, setRow_size, World.size_drew, size_drewNm] at r_hbn f_hbn s_hbn)) | (go_at_call 76; with_reducible refine (HNV.out _).mono ?_; rintro e wv ⟨rfl, hbv⟩; have r_hbv := keep_rowA hbv; have f_hbv := keep_frA hbv; have s_hbv := hbv.size; (try simp only [World.size_alloc, World.size_setCell, setRow_size, World.size_drew, size_drewNm] at r_hbv f_hbv s_hbv)))
    have hbv0 : Below w.heap.size w wv := by repeat' (first | with_reducible exact Below.refl _ _ | with_reducible assumption | with_reducible refine Below.drew ?_ | with_reducible refine Below.drewN ?_ _ | with_reducible refine Below.alloc ?_ ?_ _ | with_reducible refine Below.setCell ?_ ?_ _ | with_reducible refine Below.setRow ?_ ?_ _ | with_reducible refine below_step (by assumption) ?_ ?_ | (show (_ : Nat) ≤ _; first | omega | (simp <;> omega)))
    have hszv := hbv0.size
    go_loopw [11, 10] (fun i v wr => i = .int .i64 0 ∧ wr.ownsRow w.heap.size 81 2 v 1 (ptL a' b' [] 1) ∧ Below w.heap.size w wr) (fun i v wr => 0)
    case atStart => exact ⟨rfl, owns_down (owns_one2 wv _ _ _) (by omega), by repeat' (first | with_reducible exact Below.refl _ _ | with_reducible assumption | with_reducible refine Below.drew ?_ | with_reducible refine Below.drewN ?_ _ | with_reducible refine Below.alloc ?_ ?_ _ | with_reducible refine Below.setCell ?_ ?_ _ | with_reducible refine Below.setRow ?_ ?_ _ | with_reducible refine below_step (by assumption) ?_ ?_ | (show (_ : Nat) ≤ _; first | omega | (simp <;> omega)))⟩
    case round =>
      obtain ⟨rfl, hown, hb⟩ := hrel
      have hsz0 := hb.size
      have HV := Lib.hid (owns_path hown)
      have HGD := Lib.hid (show GoodTo ([] : List UInt8) ([] : List UInt8).length from fun k hk => absurd hk (Nat.not_lt_zero _))
      have HL80 := Lib.hid (show ([] : List UInt8).length < 80 by decide)
      clear hown
      rcases Bool.eq_false_or_eq_true (toldB (ptF a' b' []) (1)) with hto | hto
      · have HRD := Lib.hid (rp_some (HPT.out.trans (sPT_yes ⟨HGD.out, HL80.out, hto⟩)))
        have HT := Lib.hid (fun v w h => hto ▸ l04Told_any v (1) (ptF a' b' []) (by omega) (fun j _ => ptF_in haa hbb' [] j) w h)
        clear hto
        go_wp2_with (go_at_call 50; refine (HT.out _ _ (HV.out.below (by repeat' (first | with_reducible exact Below.refl _ _ | with_reducible assumption | with_reducible refine Below.drew ?_ | with_reducible refine Below.drewN ?_ _ | with_reducible refine Below.alloc ?_ ?_ _ | with_reducible refine Below.setCell ?_ ?_ _ | with_reducible refine Below.setRow ?_ ?_ _ | with_reducible refine below_step (by assumption) ?_ ?_ | (show (_ : Nat) ≤ _; first | omega | (simp <;> omega)))) (Nat.le_refl _)).slA).mono ?_; rintro e wt ⟨rfl, hbt⟩; have r_hbt := keep_rowA hbt; have f_hbt := keep_frA hbt; have s_hbt := hbt.size; (try simp only [World.size_alloc, World.size_setCell, setRow_size, World.size_drew, size_drewNm] at r_hbt f_hbt s_hbt))
        refine bodyPost_ret (v := .tuple #[u10, .int .i64 0]) (res_tt rfl rfl rfl) rfl ⟨_, by rw [HRD.out.2.1], by rw [HRD.out.1, HRD.out.2.2]; exact HV.out.below (by repeat' (first | with_reducible exact Below.refl _ _ | with_reducible assumption | with_reducible refine Below.drew ?_ | with_reducible refine Below.drewN ?_ _ | with_reducible refine Below.alloc ?_ ?_ _ | with_reducible refine Below.setCell ?_ ?_ _ | with_reducible refine Below.setRow ?_ ?_ _ | with_reducible refine below_step (by assumption) ?_ ?_ | (show (_ : Nat) ≤ _; first | omega | (simp <;> omega)))) (Nat.le_refl _), by repeat' (first | with_reducible exact Below.refl _ _ | with_reducible assumption | with_reducible refine Below.drew ?_ | with_reducible refine Below.drewN ?_ _ | with_reducible refine Below.alloc ?_ ?_ _ | with_reducible refine Below.setCell ?_ ?_ _ | with_reducible refine Below.setRow ?_ ?_ _ | with_reducible refine below_step (by assumption) ?_ ?_ | (show (_ : Nat) ≤ _; first | omega | (simp <;> omega)))⟩
      · have HRD := Lib.hid (rp_none (HPT.out.trans (sPT_bad (fun h => absurd (h.2.2.symm.trans hto) (by decide)))))
        have HT := Lib.hid (fun v w h => hto ▸ l04Told_any v (1) (ptF a' b' []) (by omega) (fun j _ => ptF_in haa hbb' [] j) w h)
        clear hto
        go_wp2_with (go_at_call 50; refine (HT.out _ _ (HV.out.below (by repeat' (first | with_reducible exact Below.refl _ _ | with_reducible assumption | with_reducible refine Below.drew ?_ | with_reducible refine Below.drewN ?_ _ | with_reducible refine Below.alloc ?_ ?_ _ | with_reducible refine Below.setCell ?_ ?_ _ | with_reducible refine Below.setRow ?_ ?_ _ | with_reducible refine below_step (by assumption) ?_ ?_ | (show (_ : Nat) ≤ _; first | omega | (simp <;> omega)))) (Nat.le_refl _)).slA).mono ?_; rintro e wt ⟨rfl, hbt⟩; have r_hbt := keep_rowA hbt; have f_hbt := keep_frA hbt; have s_hbt := hbt.size; (try simp only [World.size_alloc, World.size_setCell, setRow_size, World.size_drew, size_drewNm] at r_hbt f_hbt s_hbt))
        refine bodyPost_ret (v := .tuple #[.slice (some ⟨wt.heap.size, 0, none⟩) 0 0, .int .i64 5]) (res_tt rfl rfl rfl) rfl ⟨_, by rw [HRD.out.2], by rw [HRD.out.1]; exact own_none2 _ _ (by first | omega | (have := hsz0; omega)) _, by repeat' (first | with_reducible exact Below.refl _ _ | with_reducible assumption | with_reducible refine Below.drew ?_ | with_reducible refine Below.drewN ?_ _ | with_reducible refine Below.alloc ?_ ?_ _ | with_reducible refine Below.setCell ?_ ?_ _ | with_reducible refine Below.setRow ?_ ?_ _ | with_reducible refine below_step (by assumption) ?_ ?_ | (show (_ : Nat) ≤ _; first | omega | (simp <;> omega)))⟩
  obtain ⟨h, s, hW⟩ : ∃ h s, sp 32 l = [h, s] := by
    have h0 : 0 < (sp 32 l).length := List.length_pos_iff.2 (sp_ne 32 l)
    match sp 32 l, h0, hW1, hW2 with
    | [h, s], _, _, _ => exact ⟨h, s, rfl⟩
    | [h], _, h1, _ => exact absurd rfl h1
    | _ :: _ :: _ :: _, _, _, h2 => exact absurd (by simp) h2
  clear hW1
  have hhl : h.length ≤ 1048576 := Nat.le_trans (HM.out h (by rw [hW]; simp)) hl
  have hsl : s.length ≤ 1048576 := Nat.le_trans (HM.out s (by rw [hW]; simp)) hl
  have HWW := Lib.hid hW
  rw [hW] at HS
  have HSP := Lib.hid (fun w => split44 h hhl w)
  have HM2 := Lib.hid (fun y (hy : y ∈ sp 44 h) => seg_le hy)
  clear hW hW2
  by_cases hs0 : s = []
  · subst hs0
    have HRD := Lib.hid (rp_none (sPath_two0 HWW.out))
    by_cases h2 : (sp 44 h).length = 2
    · have hPp : 0 < (sp 44 h).length := by omega
      have h2' : (((sp 44 h).length : Nat) : Int) = 2 := by omega
      generalize sp 44 h = P at *
      go_enter Tryd.func30, Tryd.ntmps30
      go_wp2_with (go_at_call 75; (with_reducible refine (HS.out _).mono ?_); rintro e w1 ⟨vW, rfl, hown, hb1⟩; have r_hb1 := keep_rowA hb1; have f_hb1 := keep_frA hb1; have s_hb1 := hb1.size; (try simp only [World.size_alloc, World.size_setCell, setRow_size, World.size_drew, size_drewNm] at r_hb1 f_hb1 s_hb1); obtain ⟨g, cap, rfl, hg1, hg2, hgr⟩ := own_strs hown (Nat.succ_pos _); have hr0 := hgr 0 _ (Nat.succ_pos _) rfl; have hr1 := hgr 1 _ (Nat.succ_lt_succ (Nat.succ_pos _)) rfl; obtain ⟨R, hR⟩ : ∃ R, rowOf w1 g = R := ⟨_, rfl⟩; rw [hR] at hr0 hr1; have hRX : rowOfX w1 g = R := hR; clear hown hgr)
      go_wp2_with (go_at_call 75; (with_reducible refine (HSP.out _).mono ?_); rintro e wp ⟨vP, rfl, hownP, hbp⟩; have r_hbp := keep_rowA hbp; have f_hbp := keep_frA hbp; have s_hbp := hbp.size; (try simp only [World.size_alloc, World.size_setCell, setRow_size, World.size_drew, size_drewNm] at r_hbp f_hbp s_hbp); obtain ⟨g2, cap2, rfl, hg21, hg22, -⟩ := own_strs hownP hPp; clear hownP)
      refine bodyPost_ret (v := .tuple #[.slice (some ⟨wp.heap.size, 0, none⟩) 0 0, .int .i64 5]) (res_tt rfl rfl rfl) rfl ⟨_, by rw [HRD.out.2], by rw [HRD.out.1]; exact own_none2 _ _ (by first | omega | (have := hsz0; omega)) _, by repeat' (first | with_reducible exact Below.refl _ _ | with_reducible assumption | with_reducible refine Below.drew ?_ | with_reducible refine Below.drewN ?_ _ | with_reducible refine Below.alloc ?_ ?_ _ | with_reducible refine Below.setCell ?_ ?_ _ | with_reducible refine Below.setRow ?_ ?_ _ | with_reducible refine below_step (by assumption) ?_ ?_ | (show (_ : Nat) ≤ _; first | omega | (simp <;> omega)))⟩
    · have hPp : 0 < (sp 44 h).length := List.length_pos_iff.2 (sp_ne 44 h)
      have h2' : ((((sp 44 h).length : Nat) : Int) == 2) = false := by rw [beq_eq_false_iff_ne]; omega
      generalize sp 44 h = P at *
      go_enter Tryd.func30, Tryd.ntmps30
      go_wp2_with (go_at_call 75; (with_reducible refine (HS.out _).mono ?_); rintro e w1 ⟨vW, rfl, hown, hb1⟩; have r_hb1 := keep_rowA hb1; have f_hb1 := keep_frA hb1; have s_hb1 := hb1.size; (try simp only [World.size_alloc, World.size_setCell, setRow_size, World.size_drew, size_drewNm] at r_hb1 f_hb1 s_hb1); obtain ⟨g, cap, rfl, hg1, hg2, hgr⟩ := own_strs hown (Nat.succ_pos _); have hr0 := hgr 0 _ (Nat.succ_pos _) rfl; have hr1 := hgr 1 _ (Nat.succ_lt_succ (Nat.succ_pos _)) rfl; obtain ⟨R, hR⟩ : ∃ R, rowOf w1 g = R := ⟨_, rfl⟩; rw [hR] at hr0 hr1; have hRX : rowOfX w1 g = R := hR; clear hown hgr)
      go_wp2_with (go_at_call 75; (with_reducible refine (HSP.out _).mono ?_); rintro e wp ⟨vP, rfl, hownP, hbp⟩; have r_hbp := keep_rowA hbp; have f_hbp := keep_frA hbp; have s_hbp := hbp.size; (try simp only [World.size_alloc, World.size_setCell, setRow_size, World.size_drew, size_drewNm] at r_hbp f_hbp s_hbp); obtain ⟨g2, cap2, rfl, hg21, hg22, -⟩ := own_strs hownP hPp; clear hownP)
      refine bodyPost_ret (v := .tuple #[.slice (some ⟨wp.heap.size, 0, none⟩) 0 0, .int .i64 5]) (res_tt rfl rfl rfl) rfl ⟨_, by rw [HRD.out.2], by rw [HRD.out.1]; exact own_none2 _ _ (by first | omega | (have := hsz0; omega)) _, by repeat' (first | with_reducible exact Below.refl _ _ | with_reducible assumption | with_reducible refine Below.drew ?_ | with_reducible refine Below.drewN ?_ _ | with_reducible refine Below.alloc ?_ ?_ _ | with_reducible refine Below.setCell ?_ ?_ _ | with_reducible refine Below.setRow ?_ ?_ _ | with_reducible refine below_step (by assumption) ?_ ?_ | (show (_ : Nat) ≤ _; first | omega | (simp <;> omega)))⟩
  have hsp0 : 0 < s.length := List.length_pos_iff.2 hs0
  have hsz3 : ((s.length : Int) == 0) = false := by rw [beq_eq_false_iff_ne]; omega
  have HPH := Lib.hid (sPath_two HWW.out hs0)
  by_cases h2 : (sp 44 h).length = 2
  case neg =>
    have HRD := Lib.hid (rp_none (HPH.out.trans (sPH_len h2)))
    have hPp : 0 < (sp 44 h).length := List.length_pos_iff.2 (sp_ne 44 h)
    have h2' : ((((sp 44 h).length : Nat) : Int) == 2) = false := by rw [beq_eq_false_iff_ne]; omega
    generalize sp 44 h = P at *
    go_enter Tryd.func30, Tryd.ntmps30
    go_wp2_with (go_at_call 75; (with_reducible refine (HS.out _).mono ?_); rintro e w1 ⟨vW, rfl, hown, hb1⟩; have r_hb1 := keep_rowA hb1; have f_hb1 := keep_frA hb1; have s_hb1 := hb1.size; (try simp only [World.size_alloc, World.size_setCell, setRow_size, World.size_drew, size_drewNm] at r_hb1 f_hb1 s_hb1); obtain ⟨g, cap, rfl, hg1, hg2, hgr⟩ := own_strs hown (Nat.succ_pos _); have hr0 := hgr 0 _ (Nat.succ_pos _) rfl; have hr1 := hgr 1 _ (Nat.succ_lt_succ (Nat.succ_pos _)) rfl; obtain ⟨R, hR⟩ : ∃ R, rowOf w1 g = R := ⟨_, rfl⟩; rw [hR] at hr0 hr1; have hRX : rowOfX w1 g = R := hR; clear hown hgr)
    go_wp2_with (go_at_call 75; (with_reducible refine (HSP.out _).mono ?_); rintro e wp ⟨vP, rfl, hownP, hbp⟩; have r_hbp := keep_rowA hbp; have f_hbp := keep_frA hbp; have s_hbp := hbp.size; (try simp only [World.size_alloc, World.size_setCell, setRow_size, World.size_drew, size_drewNm] at r_hbp f_hbp s_hbp); obtain ⟨g2, cap2, rfl, hg21, hg22, -⟩ := own_strs hownP hPp; clear hownP)
    refine bodyPost_ret (v := .tuple #[.slice (some ⟨wp.heap.size, 0, none⟩) 0 0, .int .i64 5]) (res_tt rfl rfl rfl) rfl ⟨_, by rw [HRD.out.2], by rw [HRD.out.1]; exact own_none2 _ _ (by first | omega | (have := hsz0; omega)) _, by repeat' (first | with_reducible exact Below.refl _ _ | with_reducible assumption | with_reducible refine Below.drew ?_ | with_reducible refine Below.drewN ?_ _ | with_reducible refine Below.alloc ?_ ?_ _ | with_reducible refine Below.setCell ?_ ?_ _ | with_reducible refine Below.setRow ?_ ?_ _ | with_reducible refine below_step (by assumption) ?_ ?_ | (show (_ : Nat) ≤ _; first | omega | (simp <;> omega)))⟩
  obtain ⟨u, v, hP⟩ : ∃ u v, sp 44 h = [u, v] := by
    match sp 44 h, h2 with
    | [u, v], _ => exact ⟨u, v, rfl⟩
  have hul : u.length ≤ 1048576 := Nat.le_trans (HM2.out u (by rw [hP]; simp)) hhl
  have hvl : v.length ≤ 1048576 := Nat.le_trans (HM2.out v (by rw [hP]; simp)) hhl
  have HP := Lib.hid hP
  rw [hP] at HSP
  clear hP h2
  obtain ⟨a, ba, hA, hA1, hA2⟩ := numV_is u
  obtain ⟨b, bb, hB, hB1, hB2⟩ := numV_is v
  have HNU := Lib.hid (fun w => hA ▸ l01Number_any u hul w)
  have HNV := Lib.hid (fun w => hB ▸ l01Number_any v hvl w)
  clear hA hB
  by_cases hf : ba = false
  · have HRD := Lib.hid (rp_none (HPH.out.trans (sPH_none1 HP.out (hA2 hf))))
    subst hf
    clear hA1 hA2 hB1 hB2
    go_enter Tryd.func30, Tryd.ntmps30
    go_wp2_with (go_at_call 75; (with_reducible refine (HS.out _).mono ?_); rintro e w1 ⟨vW, rfl, hown, hb1⟩; have r_hb1 := keep_rowA hb1; have f_hb1 := keep_frA hb1; have s_hb1 := hb1.size; (try simp only [World.size_alloc, World.size_setCell, setRow_size, World.size_drew, size_drewNm] at r_hb1 f_hb1 s_hb1); obtain ⟨g, cap, rfl, hg1, hg2, hgr⟩ := own_strs hown (Nat.succ_pos _); have hr0 := hgr 0 _ (Nat.succ_pos _) rfl; have hr1 := hgr 1 _ (Nat.succ_lt_succ (Nat.succ_pos _)) rfl; obtain ⟨R, hR⟩ : ∃ R, rowOf w1 g = R := ⟨_, rfl⟩; rw [hR] at hr0 hr1; have hRX : rowOfX w1 g = R := hR; clear hown hgr)
    go_wp2_with (first | (go_at_call 75; (with_reducible refine (HSP.out _).mono ?_); rintro e wp ⟨vP, rfl, hownP, hbp⟩; have r_hbp := keep_rowA hbp; have f_hbp := keep_frA hbp; have s_hbp := hbp.size; (try simp only [World.size_alloc, World.size_setCell, setRow_size, World.size_drew, size_drewNm] at r_hbp f_hbp s_hbp); obtain ⟨g2, cap2, rfl, hg21, hg22, hgr2⟩ := own_strs hownP (Nat.succ_pos _); have hp0 := hgr2 0 _ (Nat.succ_pos _) rfl; have hp1 := hgr2 1 _ (Nat.succ_lt_succ (Nat.succ_pos _)) rfl; obtain ⟨R2, hR2⟩ : ∃ R2, rowOf wp g2 = R2 := ⟨_, rfl⟩; rw [hR2] at hp0 hp1; have hR2X : rowOfX wp g2 = R2 := hR2; clear hownP hgr2) | (go_at_call 76; with_reducible refine (HNU.out _).mono ?_; rintro e wn ⟨rfl, hbn⟩; have r_hbn := keep_rowA hbn; have f_hbn := keep_frA hbn; have s_hbn := hbn.size; (try simp only [World.size_alloc, World.size_setCell, setRow_size, World.size_drew, size_drewNm] at r_hbn f_hbn s_hbn)) | (go_at_call 76; with_reducible refine (HNV.out _).mono ?_; rintro e wv ⟨rfl, hbv⟩; have r_hbv := keep_rowA hbv; have f_hbv := keep_frA hbv; have s_hbv := hbv.size; (try simp only [World.size_alloc, World.size_setCell, setRow_size, World.size_drew, size_drewNm] at r_hbv f_hbv s_hbv)))
    refine bodyPost_ret (v := .tuple #[.slice (some ⟨wv.heap.size, 0, none⟩) 0 0, .int .i64 5]) (res_tt rfl rfl rfl) rfl ⟨_, by rw [HRD.out.2], by rw [HRD.out.1]; exact own_none2 _ _ (by first | omega | (have := hsz0; omega)) _, by repeat' (first | with_reducible exact Below.refl _ _ | with_reducible assumption | with_reducible refine Below.drew ?_ | with_reducible refine Below.drewN ?_ _ | with_reducible refine Below.alloc ?_ ?_ _ | with_reducible refine Below.setCell ?_ ?_ _ | with_reducible refine Below.setRow ?_ ?_ _ | with_reducible refine below_step (by assumption) ?_ ?_ | (show (_ : Nat) ≤ _; first | omega | (simp <;> omega)))⟩
  obtain rfl : ba = true := by cases ba <;> first | rfl | (exact absurd rfl hf)
  clear hf
  by_cases hf : bb = false
  · have HRD := Lib.hid (rp_none (HPH.out.trans (sPH_none2 HP.out (hB2 hf))))
    subst hf
    clear hA1 hA2 hB1 hB2
    go_enter Tryd.func30, Tryd.ntmps30
    go_wp2_with (go_at_call 75; (with_reducible refine (HS.out _).mono ?_); rintro e w1 ⟨vW, rfl, hown, hb1⟩; have r_hb1 := keep_rowA hb1; have f_hb1 := keep_frA hb1; have s_hb1 := hb1.size; (try simp only [World.size_alloc, World.size_setCell, setRow_size, World.size_drew, size_drewNm] at r_hb1 f_hb1 s_hb1); obtain ⟨g, cap, rfl, hg1, hg2, hgr⟩ := own_strs hown (Nat.succ_pos _); have hr0 := hgr 0 _ (Nat.succ_pos _) rfl; have hr1 := hgr 1 _ (Nat.succ_lt_succ (Nat.succ_pos _)) rfl; obtain ⟨R, hR⟩ : ∃ R, rowOf w1 g = R := ⟨_, rfl⟩; rw [hR] at hr0 hr1; have hRX : rowOfX w1 g = R := hR; clear hown hgr)
    go_wp2_with (first | (go_at_call 75; (with_reducible refine (HSP.out _).mono ?_); rintro e wp ⟨vP, rfl, hownP, hbp⟩; have r_hbp := keep_rowA hbp; have f_hbp := keep_frA hbp; have s_hbp := hbp.size; (try simp only [World.size_alloc, World.size_setCell, setRow_size, World.size_drew, size_drewNm] at r_hbp f_hbp s_hbp); obtain ⟨g2, cap2, rfl, hg21, hg22, hgr2⟩ := own_strs hownP (Nat.succ_pos _); have hp0 := hgr2 0 _ (Nat.succ_pos _) rfl; have hp1 := hgr2 1 _ (Nat.succ_lt_succ (Nat.succ_pos _)) rfl; obtain ⟨R2, hR2⟩ : ∃ R2, rowOf wp g2 = R2 := ⟨_, rfl⟩; rw [hR2] at hp0 hp1; have hR2X : rowOfX wp g2 = R2 := hR2; clear hownP hgr2) | (go_at_call 76; with_reducible refine (HNU.out _).mono ?_; rintro e wn ⟨rfl, hbn⟩; have r_hbn := keep_rowA hbn; have f_hbn := keep_frA hbn; have s_hbn := hbn.size; (try simp only [World.size_alloc, World.size_setCell, setRow_size, World.size_drew, size_drewNm] at r_hbn f_hbn s_hbn)) | (go_at_call 76; with_reducible refine (HNV.out _).mono ?_; rintro e wv ⟨rfl, hbv⟩; have r_hbv := keep_rowA hbv; have f_hbv := keep_frA hbv; have s_hbv := hbv.size; (try simp only [World.size_alloc, World.size_setCell, setRow_size, World.size_drew, size_drewNm] at r_hbv f_hbv s_hbv)))
    refine bodyPost_ret (v := .tuple #[.slice (some ⟨wv.heap.size, 0, none⟩) 0 0, .int .i64 5]) (res_tt rfl rfl rfl) rfl ⟨_, by rw [HRD.out.2], by rw [HRD.out.1]; exact own_none2 _ _ (by first | omega | (have := hsz0; omega)) _, by repeat' (first | with_reducible exact Below.refl _ _ | with_reducible assumption | with_reducible refine Below.drew ?_ | with_reducible refine Below.drewN ?_ _ | with_reducible refine Below.alloc ?_ ?_ _ | with_reducible refine Below.setCell ?_ ?_ _ | with_reducible refine Below.setRow ?_ ?_ _ | with_reducible refine below_step (by assumption) ?_ ?_ | (show (_ : Nat) ≤ _; first | omega | (simp <;> omega)))⟩
  obtain rfl : bb = true := by cases bb <;> first | rfl | (exact absurd rfl hf)
  clear hf
  obtain ⟨a', rfl, hNA⟩ := hA1 rfl
  obtain ⟨b', rfl, hNB⟩ := hB1 rfl
  have HPN := Lib.hid (HPH.out.trans (sPH_num (s := s) HP.out hNA hNB))
  clear hA1 hA2 hB1 hB2 hNA hNB
  by_cases h8a : 8 ≤ a'
  · have HRD := Lib.hid (rp_none (HPN.out.trans (if_neg (by omega))))
    have h8i : (8 : Int) ≤ (a' : Int) := by omega
    go_enter Tryd.func30, Tryd.ntmps30
    go_wp2_with (go_at_call 75; (with_reducible refine (HS.out _).mono ?_); rintro e w1 ⟨vW, rfl, hown, hb1⟩; have r_hb1 := keep_rowA hb1; have f_hb1 := keep_frA hb1; have s_hb1 := hb1.size; (try simp only [World.size_alloc, World.size_setCell, setRow_size, World.size_drew, size_drewNm] at r_hb1 f_hb1 s_hb1); obtain ⟨g, cap, rfl, hg1, hg2, hgr⟩ := own_strs hown (Nat.succ_pos _); have hr0 := hgr 0 _ (Nat.succ_pos _) rfl; have hr1 := hgr 1 _ (Nat.succ_lt_succ (Nat.succ_pos _)) rfl; obtain ⟨R, hR⟩ : ∃ R, rowOf w1 g = R := ⟨_, rfl⟩; rw [hR] at hr0 hr1; have hRX : rowOfX w1 g = R := hR; clear hown hgr)
    go_wp2_with (first | (go_at_call 75; (with_reducible refine (HSP.out _).mono ?_); rintro e wp ⟨vP, rfl, hownP, hbp⟩; have r_hbp := keep_rowA hbp; have f_hbp := keep_frA hbp; have s_hbp := hbp.size; (try simp only [World.size_alloc, World.size_setCell, setRow_size, World.size_drew, size_drewNm] at r_hbp f_hbp s_hbp); obtain ⟨g2, cap2, rfl, hg21, hg22, hgr2⟩ := own_strs hownP (Nat.succ_pos _); have hp0 := hgr2 0 _ (Nat.succ_pos _) rfl; have hp1 := hgr2 1 _ (Nat.succ_lt_succ (Nat.succ_pos _)) rfl; obtain ⟨R2, hR2⟩ : ∃ R2, rowOf wp g2 = R2 := ⟨_, rfl⟩; rw [hR2] at hp0 hp1; have hR2X : rowOfX wp g2 = R2 := hR2; clear hownP hgr2) | (go_at_call 76; with_reducible refine (HNU.out _).mono ?_; rintro e wn ⟨rfl, hbn⟩; have r_hbn := keep_rowA hbn; have f_hbn := keep_frA hbn; have s_hbn := hbn.size; (try simp only [World.size_alloc, World.size_setCell, setRow_size, World.size_drew, size_drewNm] at r_hbn f_hbn s_hbn)) | (go_at_call 76; with_reducible refine (HNV.out _).mono ?_; rintro e wv ⟨rfl, hbv⟩; have r_hbv := keep_rowA hbv; have f_hbv := keep_frA hbv; have s_hbv := hbv.size; (try simp only [World.size_alloc, World.size_setCell, setRow_size, World.size_drew, size_drewNm] at r_hbv f_hbv s_hbv)))
    refine bodyPost_ret (v := .tuple #[.slice (some ⟨wv.heap.size, 0, none⟩) 0 0, .int .i64 5]) (res_tt rfl rfl rfl) rfl ⟨_, by rw [HRD.out.2], by rw [HRD.out.1]; exact own_none2 _ _ (by first | omega | (have := hsz0; omega)) _, by repeat' (first | with_reducible exact Below.refl _ _ | with_reducible assumption | with_reducible refine Below.drew ?_ | with_reducible refine Below.drewN ?_ _ | with_reducible refine Below.alloc ?_ ?_ _ | with_reducible refine Below.setCell ?_ ?_ _ | with_reducible refine Below.setRow ?_ ?_ _ | with_reducible refine below_step (by assumption) ?_ ?_ | (show (_ : Nat) ≤ _; first | omega | (simp <;> omega)))⟩
  have h8ai : ¬ (8 : Int) ≤ (a' : Int) := by omega
  by_cases h8b : 8 ≤ b'
  · have HRD := Lib.hid (rp_none (HPN.out.trans (if_neg (by omega))))
    have h8i : (8 : Int) ≤ (b' : Int) := by omega
    go_enter Tryd.func30, Tryd.ntmps30
    go_wp2_with (go_at_call 75; (with_reducible refine (HS.out _).mono ?_); rintro e w1 ⟨vW, rfl, hown, hb1⟩; have r_hb1 := keep_rowA hb1; have f_hb1 := keep_frA hb1; have s_hb1 := hb1.size; (try simp only [World.size_alloc, World.size_setCell, setRow_size, World.size_drew, size_drewNm] at r_hb1 f_hb1 s_hb1); obtain ⟨g, cap, rfl, hg1, hg2, hgr⟩ := own_strs hown (Nat.succ_pos _); have hr0 := hgr 0 _ (Nat.succ_pos _) rfl; have hr1 := hgr 1 _ (Nat.succ_lt_succ (Nat.succ_pos _)) rfl; obtain ⟨R, hR⟩ : ∃ R, rowOf w1 g = R := ⟨_, rfl⟩; rw [hR] at hr0 hr1; have hRX : rowOfX w1 g = R := hR; clear hown hgr)
    go_wp2_with (first | (go_at_call 75; (with_reducible refine (HSP.out _).mono ?_); rintro e wp ⟨vP, rfl, hownP, hbp⟩; have r_hbp := keep_rowA hbp; have f_hbp := keep_frA hbp; have s_hbp := hbp.size; (try simp only [World.size_alloc, World.size_setCell, setRow_size, World.size_drew, size_drewNm] at r_hbp f_hbp s_hbp); obtain ⟨g2, cap2, rfl, hg21, hg22, hgr2⟩ := own_strs hownP (Nat.succ_pos _); have hp0 := hgr2 0 _ (Nat.succ_pos _) rfl; have hp1 := hgr2 1 _ (Nat.succ_lt_succ (Nat.succ_pos _)) rfl; obtain ⟨R2, hR2⟩ : ∃ R2, rowOf wp g2 = R2 := ⟨_, rfl⟩; rw [hR2] at hp0 hp1; have hR2X : rowOfX wp g2 = R2 := hR2; clear hownP hgr2) | (go_at_call 76; with_reducible refine (HNU.out _).mono ?_; rintro e wn ⟨rfl, hbn⟩; have r_hbn := keep_rowA hbn; have f_hbn := keep_frA hbn; have s_hbn := hbn.size; (try simp only [World.size_alloc, World.size_setCell, setRow_size, World.size_drew, size_drewNm] at r_hbn f_hbn s_hbn)) | (go_at_call 76; with_reducible refine (HNV.out _).mono ?_; rintro e wv ⟨rfl, hbv⟩; have r_hbv := keep_rowA hbv; have f_hbv := keep_frA hbv; have s_hbv := hbv.size; (try simp only [World.size_alloc, World.size_setCell, setRow_size, World.size_drew, size_drewNm] at r_hbv f_hbv s_hbv)))
    refine bodyPost_ret (v := .tuple #[.slice (some ⟨wv.heap.size, 0, none⟩) 0 0, .int .i64 5]) (res_tt rfl rfl rfl) rfl ⟨_, by rw [HRD.out.2], by rw [HRD.out.1]; exact own_none2 _ _ (by first | omega | (have := hsz0; omega)) _, by repeat' (first | with_reducible exact Below.refl _ _ | with_reducible assumption | with_reducible refine Below.drew ?_ | with_reducible refine Below.drewN ?_ _ | with_reducible refine Below.alloc ?_ ?_ _ | with_reducible refine Below.setCell ?_ ?_ _ | with_reducible refine Below.setRow ?_ ?_ _ | with_reducible refine below_step (by assumption) ?_ ?_ | (show (_ : Nat) ≤ _; first | omega | (simp <;> omega)))⟩
  have h8bi : ¬ (8 : Int) ≤ (b' : Int) := by omega
  have HPT := Lib.hid (HPN.out.trans (if_pos ⟨by omega, by omega⟩))
  have hwa : IntKind.i8.wrap (a' : Int) = (a' : Int) := wrap8_in (by omega)
  have hwb : IntKind.i8.wrap (b' : Int) = (b' : Int) := wrap8_in (by omega)
  have haa : -128 ≤ (a' : Int) ∧ (a' : Int) ≤ 127 := by omega
  have hbb' : -128 ≤ (b' : Int) ∧ (b' : Int) ≤ 127 := by omega
  go_enter Tryd.func30, Tryd.ntmps30
  go_wp2_with (go_at_call 75; (with_reducible refine (HS.out _).mono ?_); rintro e w1 ⟨vW, rfl, hown, hb1⟩; have r_hb1 := keep_rowA hb1; have f_hb1 := keep_frA hb1; have s_hb1 := hb1.size; (try simp only [World.size_alloc, World.size_setCell, setRow_size, World.size_drew, size_drewNm] at r_hb1 f_hb1 s_hb1); obtain ⟨g, cap, rfl, hg1, hg2, hgr⟩ := own_strs hown (Nat.succ_pos _); have hr0 := hgr 0 _ (Nat.succ_pos _) rfl; have hr1 := hgr 1 _ (Nat.succ_lt_succ (Nat.succ_pos _)) rfl; obtain ⟨R, hR⟩ : ∃ R, rowOf w1 g = R := ⟨_, rfl⟩; rw [hR] at hr0 hr1; have hRX : rowOfX w1 g = R := hR; clear hown hgr)
  go_wp2_with (first | (go_at_call 75; (with_reducible refine (HSP.out _).mono ?_); rintro e wp ⟨vP, rfl, hownP, hbp⟩; have r_hbp := keep_rowA hbp; have f_hbp := keep_frA hbp; have s_hbp := hbp.size; (try simp only [World.size_alloc, World.size_setCell, setRow_size, World.size_drew, size_drewNm] at r_hbp f_hbp s_hbp); obtain ⟨g2, cap2, rfl, hg21, hg22, hgr2⟩ := own_strs hownP (Nat.succ_pos _); have hp0 := hgr2 0 _ (Nat.succ_pos _) rfl; have hp1 := hgr2 1 _ (Nat.succ_lt_succ (Nat.succ_pos _)) rfl; obtain ⟨R2, hR2⟩ : ∃ R2, rowOf wp g2 = R2 := ⟨_, rfl⟩; rw [hR2] at hp0 hp1; have hR2X : rowOfX wp g2 = R2 := hR2; clear hownP hgr2) | (go_at_call 76; with_reducible refine (HNU.out _).mono ?_; rintro e wn ⟨rfl, hbn⟩; have r_hbn := keep_rowA hbn; have f_hbn := keep_frA hbn; have s_hbn := hbn.size; (try simp only [World.size_alloc, World.size_setCell, setRow_size, World.size_drew, size_drewNm] at r_hbn f_hbn s_hbn)) | (go_at_call 76; with_reducible refine (HNV.out _).mono ?_; rintro e wv ⟨rfl, hbv⟩; have r_hbv := keep_rowA hbv; have f_hbv := keep_frA hbv; have s_hbv := hbv.size; (try simp only [World.size_alloc, World.size_setCell, setRow_size, World.size_drew, size_drewNm] at r_hbv f_hbv s_hbv)))
  have hbv0 : Below w.heap.size w wv := by repeat' (first | with_reducible exact Below.refl _ _ | with_reducible assumption | with_reducible refine Below.drew ?_ | with_reducible refine Below.drewN ?_ _ | with_reducible refine Below.alloc ?_ ?_ _ | with_reducible refine Below.setCell ?_ ?_ _ | with_reducible refine Below.setRow ?_ ?_ _ | with_reducible refine below_step (by assumption) ?_ ?_ | (show (_ : Nat) ≤ _; first | omega | (simp <;> omega)))
  have hszv := hbv0.size
  have hrv : rowOf wv g = R := by (go_simp <;> (intros; omega))
  go_loopw [11, 10] (fun i v wr => ∃ k : Nat, k ≤ s.length ∧ k < 80 ∧ i = .int .i64 k ∧ wr.ownsRow w.heap.size 81 2 v (k + 1) (ptL a' b' s (k + 1)) ∧ GoodTo s k ∧ Below w.heap.size w wr ∧ rowOf wr g = R ∧ g < wr.heap.size ∧ ∀ q, v.ownBlock = some q → q ≠ g) (fun i v wr => s.length + 1 - (intOf i).toNat)
  case atStart => exact ⟨0, by omega, by omega, rfl, owns_down (owns_one2 wv _ _ _) (by omega), fun k hk => by omega, by repeat' (first | with_reducible exact Below.refl _ _ | with_reducible assumption | with_reducible refine Below.drew ?_ | with_reducible refine Below.drewN ?_ _ | with_reducible refine Below.alloc ?_ ?_ _ | with_reducible refine Below.setCell ?_ ?_ _ | with_reducible refine Below.setRow ?_ ?_ _ | with_reducible refine below_step (by assumption) ?_ ?_ | (show (_ : Nat) ≤ _; first | omega | (simp <;> omega))), by (go_simp <;> (intros; omega)), by first | omega | (simp <;> omega), fun q hq => by simp [Value.ownBlock] at hq; omega⟩
  case round =>
    obtain ⟨k, hk, hk80, rfl, hown, hgd, hb, hrow, hsz, hno⟩ := hrel
    have hsz0 := hb.size
    have HNO := Lib.hid hno
    have HG := Lib.hid hgd
    clear hno hgd
    by_cases hlt : k < s.length
    · obtain ⟨go, capo, rfl, hgo1, hgo2, hcapo, hcells⟩ := owns_pos hown (Nat.succ_pos _)
      have HO := Lib.hid hown
      have hlt2 : (k : Int) < (s.length : Int) := by omega
      obtain ⟨c, hc0⟩ : ∃ c, s[k] = c := ⟨_, rfl⟩
      have hcx : s[k]? = some c := by rw [List.getElem?_eq_getElem hlt, hc0]
      have hq0 : (rowOf wr go)[k * 2]? = some (.int .i8 (pt a' b' s k).1) := by rw [hcells (k * 2) (by omega), ptL_at a' b' s (k + 1) (k * 2) (by omega), ptF_even]
      have hq1 : (rowOf wr go)[k * 2 + 1]? = some (.int .i8 (pt a' b' s k).2) := by rw [hcells (k * 2 + 1) (by omega), ptL_at a' b' s (k + 1) (k * 2 + 1) (by omega), ptF_odd]
      have hpb := pt_in haa hbb' s k
      have HNX := Lib.hid (pt_next (x := a') (y := b') hcx)
      have HCX := Lib.hid hcx
      generalize (pt a' b' s k).1 = xk at *
      generalize (pt a' b' s k).2 = yk at *
      clear hcells hown
      go_wp2
      go_loopw [13, 12] (fun i v wx => ∃ j : Nat, j ≤ 4 ∧ i = .int .i64 j ∧ v = .int .i64 (sdI c j) ∧ Below wr.heap.size wr wx) (fun i v wx => 5 - (intOf i).toNat)
      case atStart => exact ⟨0, by omega, rfl, by rw [show sdI c 0 = -1 from if_neg (by omega)], by repeat' (first | with_reducible exact Below.refl _ _ | with_reducible assumption | with_reducible refine Below.drew ?_ | with_reducible refine Below.drewN ?_ _ | with_reducible refine Below.alloc ?_ ?_ _ | with_reducible refine Below.setCell ?_ ?_ _ | with_reducible refine Below.setRow ?_ ?_ _ | with_reducible refine below_step (by assumption) ?_ ?_ | (show (_ : Nat) ≤ _; first | omega | (simp <;> omega)))⟩
      case round =>
        obtain ⟨j, hj, rfl, rfl, hbx⟩ := hrel
        have hszx := hbx.size
        have hrx : rowOf wr g = R := (keep_row hbx hsz).trans hrow
        have hq0x : (rowOf wr go)[k * 2]? = some (.int .i8 xk) := by rw [keep_row hbx hgo2]; exact hq0
        have hq1x : (rowOf wr go)[k * 2 + 1]? = some (.int .i8 yk) := by rw [keep_row hbx hgo2]; exact hq1
        have hBx := below_step hbx hsz0 hb
        by_cases hj4 : j < 4
        · have hj4' : (j : Int) < 4 := by omega
          have hnj := nesw_at hj4
          by_cases hd : dirB j = c
          · have HSD := Lib.hid (sdI_hit hd hj4)
            obtain ⟨dj, hdj⟩ : ∃ dj, dirB j = dj := ⟨_, rfl⟩
            rw [hdj] at hnj hd
            have hdd : ((dj.toNat : Int) == (c.toNat : Int)) = true := by rw [hd]; simp
            have hdn : dj.toNat = c.toNat := by rw [hd]
            have hnx := (List.getElem?_eq_some_iff.1 hnj).2
            clear hdj
            go_wp2
            go_quiet (fail)
            go_wp2
            go_roundw
            case rel => first | exact ⟨j + 1, by omega, by go_num, by rw [HSD.out], by repeat' (first | with_reducible exact Below.refl _ _ | with_reducible assumption | with_reducible refine Below.drew ?_ | with_reducible refine Below.drewN ?_ _ | with_reducible refine Below.alloc ?_ ?_ _ | with_reducible refine Below.setCell ?_ ?_ _ | with_reducible refine Below.setRow ?_ ?_ _ | with_reducible refine below_step (by assumption) ?_ ?_ | (show (_ : Nat) ≤ _; first | omega | (simp <;> omega)))⟩ | ((repeat (with_reducible apply Exists.intro)); refine And.intro ?_ ?_; rotate_left; (focus ((repeat' (with_reducible apply And.intro)) <;> rfl)); exact ⟨j + 1, by omega, by go_num, by rw [HSD.out], by repeat' (first | with_reducible exact Below.refl _ _ | with_reducible assumption | with_reducible refine Below.drew ?_ | with_reducible refine Below.drewN ?_ _ | with_reducible refine Below.alloc ?_ ?_ _ | with_reducible refine Below.setCell ?_ ?_ _ | with_reducible refine Below.setRow ?_ ?_ _ | with_reducible refine below_step (by assumption) ?_ ?_ | (show (_ : Nat) ≤ _; first | omega | (simp <;> omega)))⟩)
            case measure => simp [intOf]; omega
          · have HSD := Lib.hid (sdI_miss hd hj4)
            obtain ⟨dj, hdj⟩ : ∃ dj, dirB j = dj := ⟨_, rfl⟩
            rw [hdj] at hnj hd
            have hdn : ¬ dj.toNat = c.toNat := fun e => hd (UInt8.toNat_inj.1 e)
            have hdd : ((dj.toNat : Int) == (c.toNat : Int)) = false := by rw [beq_eq_false_iff_ne]; omega
            have hde : decide ((dj.toNat : Int) = (c.toNat : Int)) = false := decide_eq_false (by omega)
            have hnx := (List.getElem?_eq_some_iff.1 hnj).2
            clear hdj
            go_wp2
            go_quiet (fail)
            go_wp2
            go_roundw
            case rel => first | exact ⟨j + 1, by omega, by go_num, by rw [HSD.out], by repeat' (first | with_reducible exact Below.refl _ _ | with_reducible assumption | with_reducible refine Below.drew ?_ | with_reducible refine Below.drewN ?_ _ | with_reducible refine Below.alloc ?_ ?_ _ | with_reducible refine Below.setCell ?_ ?_ _ | with_reducible refine Below.setRow ?_ ?_ _ | with_reducible refine below_step (by assumption) ?_ ?_ | (show (_ : Nat) ≤ _; first | omega | (simp <;> omega)))⟩ | ((repeat (with_reducible apply Exists.intro)); refine And.intro ?_ ?_; rotate_left; (focus ((repeat' (with_reducible apply And.intro)) <;> rfl)); exact ⟨j + 1, by omega, by go_num, by rw [HSD.out], by repeat' (first | with_reducible exact Below.refl _ _ | with_reducible assumption | with_reducible refine Below.drew ?_ | with_reducible refine Below.drewN ?_ _ | with_reducible refine Below.alloc ?_ ?_ _ | with_reducible refine Below.setCell ?_ ?_ _ | with_reducible refine Below.setRow ?_ ?_ _ | with_reducible refine below_step (by assumption) ?_ ?_ | (show (_ : Nat) ≤ _; first | omega | (simp <;> omega)))⟩)
            case measure => simp [intOf]; omega
        · have hje : j = 4 := by omega
          subst hje
          by_cases hs4 : sideK c < 4
          · have hsd : sdI c 4 = (sideK c : Int) := if_pos hs4
            have HGN := Lib.hid (good_next HG.out HCX.out hs4)
            have hneg : ¬ (sideK c : Int) < 0 := by omega
            rw [hsd]
            by_cases hk79 : k + 1 = 80
            · have HRD := Lib.hid (rp_none (HPT.out.trans (sPT_bad (fun h => by have := h.2.1; omega))))
              have hk79' : ((k : Int) + 1 == 80) = true := by rw [beq_iff_eq]; omega
              have hk79b : k = 79 := by omega
              go_wp2
              refine bodyPost_ret (v := .tuple #[.slice (some ⟨wr.heap.size, 0, none⟩) 0 0, .int .i64 5]) (res_tt rfl rfl rfl) rfl ⟨_, by rw [HRD.out.2], by rw [HRD.out.1]; exact own_none2 _ _ (by first | omega | (have := hsz0; omega)) _, by repeat' (first | with_reducible exact Below.refl _ _ | with_reducible assumption | with_reducible refine Below.drew ?_ | with_reducible refine Below.drewN ?_ _ | with_reducible refine Below.alloc ?_ ?_ _ | with_reducible refine Below.setCell ?_ ?_ _ | with_reducible refine Below.setRow ?_ ?_ _ | with_reducible refine below_step (by assumption) ?_ ?_ | (show (_ : Nat) ≤ _; first | omega | (simp <;> omega)))⟩
            have hk79' : ((k : Int) + 1 == 80) = false := by rw [beq_eq_false_iff_ne]; omega
            have hk79b : ¬ k = 79 := by omega
            have HNXT := Lib.hid (fun w => l01Next_any (sideK c) hs4 xk yk hpb.1 hpb.2 w)
            generalize hjj : sideK c = jj at *
            generalize (nx jj xk yk).1 = xn at *
            generalize (nx jj xk yk).2 = yn at *
            clear hsd hcx hjj
            go_wp2_with (first | (go_at_call 77; refine (HNXT.out _).mono ?_; rintro e wb ⟨rfl, hbb⟩; have r_hbb := keep_rowA hbb; have f_hbb := keep_frA hbb; have s_hbb := hbb.size; (try simp only [World.size_alloc, World.size_setCell, setRow_size, World.size_drew, size_drewNm] at r_hbb f_hbb s_hbb)) | (at_builtin; refine wpList_append_own_at _ rfl _ _ 28 rfl w.heap.size 81 i0 z0 2 2 Tryd.underlying28 HI.out.1 HI.out.2.1 HI.out.2.2.1 HI.out.2.2.2.1 HI.out.2.2.2.2 (by decide) _ _ _ rfl ((owns_below HO.out (by repeat' (first | with_reducible exact Below.refl _ _ | with_reducible assumption | with_reducible refine Below.drew ?_ | with_reducible refine Below.drewN ?_ _ | with_reducible refine Below.alloc ?_ ?_ _ | with_reducible refine Below.setCell ?_ ?_ _ | with_reducible refine Below.setRow ?_ ?_ _ | with_reducible refine below_step (by assumption) ?_ ?_ | (show (_ : Nat) ≤ _; first | omega | (simp <;> omega))))).alloc _) ⟨wb.heap.size, 0, none⟩ 1 1 [.int .i8 xn, .int .i8 yn] rfl rfl ?c1 ?c2 ?c3 ?c4 ?c5 ?_))
            case c1 =>
              intro j u hj
              match j, hj with
              | 0, hj => simp at hj; subst hj; simp [Addr.add]
              | 1, hj => simp at hj; subst hj; simp [Addr.add]
            case c2 =>
              intro u hu
              simp at hu
              rcases hu with rfl | rfl <;> rfl
            case c3 => unfold maxLen; omega
            case c4 => omega
            case c5 => first | omega | (simp <;> omega)
            intro v' w2 hown' hgrow _ hat
            have hbg : Below w.heap.size w w2 := below_grown (Below.alloc (by repeat' (first | with_reducible exact Below.refl _ _ | with_reducible assumption | with_reducible refine Below.drew ?_ | with_reducible refine Below.drewN ?_ _ | with_reducible refine Below.alloc ?_ ?_ _ | with_reducible refine Below.setCell ?_ ?_ _ | with_reducible refine Below.setRow ?_ ?_ _ | with_reducible refine below_step (by assumption) ?_ ?_ | (show (_ : Nat) ≤ _; first | omega | (simp <;> omega)))) (by omega) _) hgrow (owns_base (owns_below HO.out (Below.refl _ _))) (by first | omega | (simp <;> omega))
            have hr2 : rowOf w2 g = R := (grown_row hgrow (by first | omega | (simp <;> omega)) (fun h => HNO.out _ h.symm rfl)).trans (by (go_simp <;> (intros; omega)))
            have hs2 : wb.heap.size < w2.heap.size := by first | (have := hgrow.size; omega) | (have := hgrow.size; simp at this; omega)
            have HAT := Lib.hid (show ∀ q, v'.ownBlock = some q → q ≠ g by
              intro q hq e
              rcases hat with h | h
              · exact HNO.out q (h.symm.trans hq) e
              · rw [h] at hq; first | (cases hq; omega) | (simp at hq; omega))
            rw [← HNX.out] at hown'
            have HBG := Lib.hid hbg
            have HW := Lib.hid hown'
            clear hbg hown' hgrow hat
            go_wp2
            go_roundw
            case rel => first | exact ⟨k + 1, by omega, by omega, by go_num, HW.out, HGN.out, HBG.out, hr2, by omega, HAT.out⟩ | ((repeat (with_reducible apply Exists.intro)); refine And.intro ?_ ?_; rotate_left; (focus ((repeat' (with_reducible apply And.intro)) <;> rfl)); exact ⟨k + 1, by omega, by omega, by go_num, HW.out, HGN.out, HBG.out, hr2, by omega, HAT.out⟩)
            case measure => simp [intOf]; omega
          · have hsd : sdI c 4 = -1 := if_neg hs4
            have HRD := Lib.hid (rp_none (HPT.out.trans (sPT_bad (fun h => good_bad hlt HCX.out hs4 h.1))))
            rw [hsd]
            go_wp2
            refine bodyPost_ret (v := .tuple #[.slice (some ⟨wr.heap.size, 0, none⟩) 0 0, .int .i64 5]) (res_tt rfl rfl rfl) rfl ⟨_, by rw [HRD.out.2], by rw [HRD.out.1]; exact own_none2 _ _ (by first | omega | (have := hsz0; omega)) _, by repeat' (first | with_reducible exact Below.refl _ _ | with_reducible assumption | with_reducible refine Below.drew ?_ | with_reducible refine Below.drewN ?_ _ | with_reducible refine Below.alloc ?_ ?_ _ | with_reducible refine Below.setCell ?_ ?_ _ | with_reducible refine Below.setRow ?_ ?_ _ | with_reducible refine below_step (by assumption) ?_ ?_ | (show (_ : Nat) ≤ _; first | omega | (simp <;> omega)))⟩
    · have hke : k = s.length := by omega
      subst hke
      have hd : decide ((s.length : Int) < (s.length : Int)) = false := decide_eq_false (by omega)
      have HV := Lib.hid (owns_path hown)
      have HGD := Lib.hid HG.out
      have HL80 := Lib.hid hk80
      clear hown
      rcases Bool.eq_false_or_eq_true (toldB (ptF a' b' s) (s.length + 1)) with hto | hto
      · have HRD := Lib.hid (rp_some (HPT.out.trans (sPT_yes ⟨HGD.out, HL80.out, hto⟩)))
        have HT := Lib.hid (fun v w h => hto ▸ l04Told_any v (s.length + 1) (ptF a' b' s) (by omega) (fun j _ => ptF_in haa hbb' s j) w h)
        clear hto
        go_wp2_with (go_at_call 50; refine (HT.out _ _ (HV.out.below (by repeat' (first | with_reducible exact Below.refl _ _ | with_reducible assumption | with_reducible refine Below.drew ?_ | with_reducible refine Below.drewN ?_ _ | with_reducible refine Below.alloc ?_ ?_ _ | with_reducible refine Below.setCell ?_ ?_ _ | with_reducible refine Below.setRow ?_ ?_ _ | with_reducible refine below_step (by assumption) ?_ ?_ | (show (_ : Nat) ≤ _; first | omega | (simp <;> omega)))) (Nat.le_refl _)).slA).mono ?_; rintro e wt ⟨rfl, hbt⟩; have r_hbt := keep_rowA hbt; have f_hbt := keep_frA hbt; have s_hbt := hbt.size; (try simp only [World.size_alloc, World.size_setCell, setRow_size, World.size_drew, size_drewNm] at r_hbt f_hbt s_hbt))
        refine bodyPost_ret (v := .tuple #[u10, .int .i64 0]) (res_tt rfl rfl rfl) rfl ⟨_, by rw [HRD.out.2.1], by rw [HRD.out.1, HRD.out.2.2]; exact HV.out.below (by repeat' (first | with_reducible exact Below.refl _ _ | with_reducible assumption | with_reducible refine Below.drew ?_ | with_reducible refine Below.drewN ?_ _ | with_reducible refine Below.alloc ?_ ?_ _ | with_reducible refine Below.setCell ?_ ?_ _ | with_reducible refine Below.setRow ?_ ?_ _ | with_reducible refine below_step (by assumption) ?_ ?_ | (show (_ : Nat) ≤ _; first | omega | (simp <;> omega)))) (Nat.le_refl _), by repeat' (first | with_reducible exact Below.refl _ _ | with_reducible assumption | with_reducible refine Below.drew ?_ | with_reducible refine Below.drewN ?_ _ | with_reducible refine Below.alloc ?_ ?_ _ | with_reducible refine Below.setCell ?_ ?_ _ | with_reducible refine Below.setRow ?_ ?_ _ | with_reducible refine below_step (by assumption) ?_ ?_ | (show (_ : Nat) ≤ _; first | omega | (simp <;> omega)))⟩
      · have HRD := Lib.hid (rp_none (HPT.out.trans (sPT_bad (fun h => absurd (h.2.2.symm.trans hto) (by decide)))))
        have HT := Lib.hid (fun v w h => hto ▸ l04Told_any v (s.length + 1) (ptF a' b' s) (by omega) (fun j _ => ptF_in haa hbb' s j) w h)
        clear hto
        go_wp2_with (go_at_call 50; refine (HT.out _ _ (HV.out.below (by repeat' (first | with_reducible exact Below.refl _ _ | with_reducible assumption | with_reducible refine Below.drew ?_ | with_reducible refine Below.drewN ?_ _ | with_reducible refine Below.alloc ?_ ?_ _ | with_reducible refine Below.setCell ?_ ?_ _ | with_reducible refine Below.setRow ?_ ?_ _ | with_reducible refine below_step (by assumption) ?_ ?_ | (show (_ : Nat) ≤ _; first | omega | (simp <;> omega)))) (Nat.le_refl _)).slA).mono ?_; rintro e wt ⟨rfl, hbt⟩; have r_hbt := keep_rowA hbt; have f_hbt := keep_frA hbt; have s_hbt := hbt.size; (try simp only [World.size_alloc, World.size_setCell, setRow_size, World.size_drew, size_drewNm] at r_hbt f_hbt s_hbt))
        refine bodyPost_ret (v := .tuple #[.slice (some ⟨wt.heap.size, 0, none⟩) 0 0, .int .i64 5]) (res_tt rfl rfl rfl) rfl ⟨_, by rw [HRD.out.2], by rw [HRD.out.1]; exact own_none2 _ _ (by first | omega | (have := hsz0; omega)) _, by repeat' (first | with_reducible exact Below.refl _ _ | with_reducible assumption | with_reducible refine Below.drew ?_ | with_reducible refine Below.drewN ?_ _ | with_reducible refine Below.alloc ?_ ?_ _ | with_reducible refine Below.setCell ?_ ?_ _ | with_reducible refine Below.setRow ?_ ?_ _ | with_reducible refine below_step (by assumption) ?_ ?_ | (show (_ : Nat) ≤ _; first | omega | (simp <;> omega)))⟩
end Go.Proofs.YtbnhhjjhjjmmjaaDoor
