/- Copies and appends of zeros, elements of several cells; one element put between others. No program. -/
import Derived.Test.YtkdfkhjoijfcdaaSlV
import Derived.Laws.CopyRow
import Derived.Laws.AppendOwn
import Derived.Lib.Overlaps
import Derived.Deep.RegionLaw
namespace Go.Proofs.Ytkdfkhjoijfcdaa
open Go.RowKit
set_option linter.unusedVariables false
set_option linter.unusedSimpArgs false
set_option maxRecDepth 100000
theorem take_splice (cur : Array Value) (o : Nat) (cs : List Value) (h : o + cs.length ≤ cur.size) : (cur.toList.take o ++ cs ++ cur.toList.drop (o + cs.length)).toArray = splice cur o cs.toArray := by
  apply Array.ext_getElem?
  intro j
  rw [splice_get _ _ _ _ (by simpa using h), List.getElem?_toArray, List.append_assoc, List.getElem?_append, List.getElem?_append, List.length_take]
  have hm : min o cur.toList.length = o := by rw [Array.length_toList]; omega
  rw [hm, List.size_toArray]
  by_cases h1 : j < o
  · rw [if_pos h1, if_neg (by omega), List.getElem?_take, if_pos h1, Array.getElem?_toList]
  · rw [if_neg h1]
    by_cases h2 : j - o < cs.length
    · rw [if_pos h2, if_pos (by omega), List.getElem?_toArray]
    · rw [if_neg h2, if_neg (by omega), List.getElem?_drop, Array.getElem?_toList]
      congr 1
      omega
theorem run_copy_wide {P : Program} (w : World) (dT sT ty elem : TypeId) (s : Nat) (g o dLen dCap : Nat) (a : Addr) (sLen sCap m : Nat) (cur : Array Value) (t : TypeId) (cs : List Value)
    (hu : P.underlying dT = some (.slice elem)) (hs : (P.info? elem).map (·.size) = some s)
    (hg : w.heap[g]? = some (.cells cur t (0, 0))) (hm : Nat.min sLen dLen = m) (hn : cs.length = m * s)
    (hsrc : ∀ j v, cs[j]? = some v → w.cell? (a.add j) = some v) (hfit : o + cs.length ≤ cur.size) (h1 : ∀ v ∈ cs, v.oneCell' = true) :
    (Builtin.copy_ #[dT, sT] ty #[.slice (some ⟨g, o, none⟩) dLen dCap, .slice (some a) sLen sCap]).run P w =
      .ok (goInt m) (w.setRow g (splice cur o cs.toArray)) := by
  have hl := run_loadCells_list (P := P) w a cs hsrc
  have hst := run_storeCells_at P g o t cs 0 cur w hg (by simpa using hfit) h1
  rw [Nat.add_zero, take_splice cur o cs hfit] at hst
  cases hq : P.info? elem with
  | none => simp [hq] at hs
  | some i =>
    have hi : i.size = s := by simpa [hq] using hs
    simp [Builtin.copy_, run_underlying hu, Builtin.lenOf, Builtin.firstCells, sizeOf, typeInfo, hq, hi, hm, ← hn, hl, hst]
theorem wpList_copy_wide {P : Program} {w : World} {ops : Array Oper} {rest : List Oper} {o : Oper} {a : Act} {Q : Exit → Act → World → Prop} (hgd : o.guard = none) (d x : Operand) (dT sT : TypeId)
    (ho : o.op = .call { callee := .builtin .copy, args := #[d, x], argTypes := #[dT, sT] }) (elem : TypeId) (s : Nat) (hu : P.underlying dT = some (.slice elem)) (hsz : (P.info? elem).map (·.size) = some s)
    (g off dLen dCap : Nat) (ad : Addr) (sLen sCap m : Nat) (hd : a.eval d = .slice (some ⟨g, off, none⟩) dLen dCap) (hx : a.eval x = .slice (some ad) sLen sCap)
    (cur : Array Value) (t : TypeId) (hg : w.heap[g]? = some (.cells cur t (0, 0))) (cs : List Value) (hm : Nat.min sLen dLen = m) (hn : cs.length = m * s)
    (hsrc : ∀ j v, cs[j]? = some v → w.cell? (ad.add j) = some v) (hfit : off + cs.length ≤ cur.size) (h1 : ∀ v ∈ cs, v.oneCell' = true)
    (h : wpList P ops Q rest (a.put o.dst (goInt m)) (w.setRow g (splice cur off cs.toArray))) : wpList P ops Q (o :: rest) a w := by
  refine wpList_plain hgd fun K hK => ?_
  have hrun := run_copy_wide (P := P) w dT sT o.type elem s g off dLen dCap ad sLen sCap m cur t cs hu hsz hg hm hn hsrc hfit h1
  unfold Oper.wp
  simp [execOp, ho, resolve, invoke, builtin, hd, hx, hrun, Result.andThen]
  exact hK _ _ h
theorem step_copy_wide {P : Program} {ops : Array Oper} {o : Oper} {a : Act} {w : World} {K : Act → World → Prop} {Q : Exit → Act → World → Prop} {E : Prop} (hgd : o.guard = none) (d x : Operand) (dT sT : TypeId)
    (ho : o.op = .call { callee := .builtin .copy, args := #[d, x], argTypes := #[dT, sT] }) (elem : TypeId) (s : Nat) (hu : P.underlying dT = some (.slice elem)) (hsz : (P.info? elem).map (·.size) = some s)
    (g off dLen dCap : Nat) (ad : Addr) (sLen sCap m : Nat) (hd : a.eval d = .slice (some ⟨g, off, none⟩) dLen dCap) (hx : a.eval x = .slice (some ad) sLen sCap)
    (cur : Array Value) (t : TypeId) (hg : w.heap[g]? = some (.cells cur t (0, 0))) (cs : List Value) (hm : Nat.min sLen dLen = m) (hn : cs.length = m * s)
    (hsrc : ∀ j v, cs[j]? = some v → w.cell? (ad.add j) = some v) (hfit : off + cs.length ≤ cur.size) (h1 : ∀ v ∈ cs, v.oneCell' = true)
    (h : K (a.put o.dst (goInt m)) (w.setRow g (splice cur off cs.toArray))) :
    if Region.wanted o (yielded ops a.tmps) = true then Oper.wp P o a w K Q else E := by
  have hw : Region.wanted o (yielded ops a.tmps) = true := by simp [Region.wanted, hgd]
  rw [if_pos hw]
  have hrun := run_copy_wide (P := P) w dT sT o.type elem s g off dLen dCap ad sLen sCap m cur t cs hu hsz hg hm hn hsrc hfit h1
  unfold Oper.wp
  simp [execOp, ho, resolve, invoke, builtin, hd, hx, hrun, Result.andThen]
  exact h
/-- An append of n zeros where there is no room for them. -/
theorem run_append_zeros {P : Program} (w : World) (t tn ty e : TypeId) (i : TypeInfo) (z : Value) (k kn : IntKind) (ht : P.underlying t = some (.slice e)) (htn : P.underlying tn = some (.int kn)) (hi : P.info? e = some i) (hz : i.zero = some z)
    (b : Addr) (sLen sCap : Nat) (olds : List Value) (hlo : olds.length = sLen * i.size) (holds : ∀ j v, olds[j]? = some v → w.cell? (b.add j) = some v)
    (n : Nat) (h0 : 0 < n) (hs : 0 < i.size) (hg : sCap < sLen + n) (h63 : ((sLen + n : Nat) : Int) ≤ 9223372036854775807) (h48 : n * i.bytes ≤ 281474976710656) (hfit : Builtin.nextslicecap (sLen + n) sCap * i.bytes ≤ 281474976710656) :
    (Builtin.append_ #[t, tn] ty #[.slice (some b) sLen sCap, .int k n]).run P w =
      .ok (.slice (some ⟨w.heap.size, 0, none⟩) (sLen + n) (grownCap w (sLen + n) sCap e))
        (w.drew.alloc (.cells (olds.toArray ++ Builtin.zeroCells z.cells n ++ Builtin.zeroCells z.cells (grownCap w (sLen + n) sCap e - (sLen + n))) e)) := by
  have hn : n ≠ 0 := by omega
  have hw : IntKind.i64.wrap (n : Int) = n := by rw [IntKind.wrap_i64]; omega
  have hnr : ¬ (sLen + n ≤ sCap) := by omega
  have h63' : ¬ (9223372036854775807 < ((sLen : Int) + (n : Int))) := by omega
  have h48' : ¬ (281474976710656 < Builtin.nextslicecap (sLen + n) sCap * i.bytes) := by omega
  have h48i : ¬ (281474976710656 < (n : Int) * (i.bytes : Int)) := by
    rw [← Int.natCast_mul]
    omega
  have hneg : ¬ ((n : Int) < 0) := by omega
  have hns : ¬ (n * i.size = 0) := Nat.mul_ne_zero hn (by omega)
  have hfo := run_firstCells_some (P := P) w.drew i.size sLen b sLen sCap olds hlo (by simpa using holds)
  simp [Builtin.append_, run_underlying ht, run_underlying htn, sizeOf, typeInfo, zeroValue, hi, hz, asInt, asIntOf, hw, hn, hneg, hns, hnr, h63', h48', h48i, Question.forced, hfo, newRow, grownCap]
/-- The stack with one sheet put in at a place. -/
def insF (F : Nat → Nat → Int) (at' : Nat) (d : Nat → Int) (k : Nat) : Nat → Int := if k < at' then F k else if k = at' then d else F (k - 1)
def shL (F : Nat → Nat → Int) (n : Nat) : List Value := (List.range (n * 266)).map fun j => shV F (j / 266) (j % 266)
theorem shL_len (F : Nat → Nat → Int) (n : Nat) : (shL F n).length = n * 266 := by unfold shL; rw [List.length_map, List.length_range]
theorem shL_at {F : Nat → Nat → Int} {n k j : Nat} (hk : k < n) (hj : j < 266) : (shL F n)[k * 266 + j]? = some (shV F k j) := by
  have hlt : k * 266 + j < n * 266 := by omega
  unfold shL
  rw [List.getElem?_map, List.getElem?_range hlt]
  simp only [Option.map_some]
  congr 2 <;> omega
theorem shL_one {F : Nat → Nat → Int} {n : Nat} : ∀ u ∈ shL F n, u.oneCell' = true := fun u hu => by
  unfold shL at hu
  obtain ⟨j, -, rfl⟩ := List.mem_map.1 hu
  rfl
theorem shL_get {F : Nat → Nat → Int} {n j : Nat} {u : Value} (h : (shL F n)[j]? = some u) : j < n * 266 ∧ u = shV F (j / 266) (j % 266) := by
  have hj := (List.getElem?_eq_some_iff.1 h).1
  rw [shL_len] at hj
  refine ⟨hj, ?_⟩
  have := shL_at (F := F) (n := n) (k := j / 266) (j := j % 266) (by omega) (by omega)
  rw [show j / 266 * 266 + j % 266 = j by omega, h] at this
  exact Option.some.inj this
theorem shL_drop {F : Nat → Nat → Int} {n a k j : Nat} (ha : a ≤ k) (hk : k < n) (hj : j < 266) : ((shL F n).drop (a * 266)).toArray[(k - a) * 266 + j]? = some (shV F k j) := by
  rw [List.getElem?_toArray, List.getElem?_drop, show a * 266 + ((k - a) * 266 + j) = k * 266 + j by omega]
  exact shL_at hk hj
theorem drop_size (F : Nat → Nat → Int) (n a : Nat) : ((shL F n).drop (a * 266)).toArray.size = (n - a) * 266 := by
  rw [List.size_toArray, List.length_drop, shL_len]; omega
theorem ins_grow {F : Nat → Nat → Int} {n a : Nat} {d : Nat → Int} {cur : Array Value} (ha : a < n) (hs : (n + 1) * 266 ≤ cur.size) (hc : ∀ j, j < a * 266 → cur[j]? = (shL F n)[j]?) :
    ∀ k, k < n + 1 → ∀ j, j < 266 → (splice (splice cur (a * 266) (kc sk 266 d)) ((a + 1) * 266) ((shL F n).drop (a * 266)).toArray)[k * 266 + j]? = some (shV (insF F a d) k j) := fun k hk j hj => by
  rw [splice_get _ _ _ _ (by rw [splice_size, drop_size]; omega), drop_size]
  by_cases h1 : a + 1 ≤ k
  · rw [if_pos (by omega)]
    have e := shL_drop (F := F) (n := n) (a := a) (k := k - 1) (j := j) (by omega) (by omega) hj
    rw [show k * 266 + j - (a + 1) * 266 = (k - 1 - a) * 266 + j by omega, e]
    unfold shV insF
    rw [if_neg (by omega), if_neg (by omega)]
  · rw [if_neg (by omega), splice_get _ _ _ _ (by rw [kc_size]; omega), kc_size]
    by_cases h2 : k = a
    · subst h2
      rw [if_pos (by omega), show k * 266 + j - k * 266 = j by omega, kc_get, if_pos hj]
      unfold shV insF
      rw [if_neg (by omega), if_pos rfl]
    · rw [if_neg (by omega), hc _ (by omega), shL_at (by omega) hj]
      unfold shV insF
      rw [if_pos (by omega)]
theorem ins_room {F : Nat → Nat → Int} {n a : Nat} {d : Nat → Int} {cur : Array Value} (ha : a < n) (hs : (n + 1) * 266 ≤ cur.size) (hc : ∀ j, j < n * 266 → cur[j]? = (shL F n)[j]?) :
    ∀ k, k < n + 1 → ∀ j, j < 266 → (splice (splice cur ((a + 1) * 266) ((shL F n).drop (a * 266)).toArray) (a * 266) (kc sk 266 d))[k * 266 + j]? = some (shV (insF F a d) k j) := fun k hk j hj => by
  rw [splice_get _ _ _ _ (by rw [splice_size, kc_size]; omega), kc_size]
  by_cases h2 : k = a
  · subst h2
    rw [if_pos (by omega), show k * 266 + j - k * 266 = j by omega, kc_get, if_pos hj]
    unfold shV insF
    rw [if_neg (by omega), if_pos rfl]
  · rw [if_neg (by omega), splice_get _ _ _ _ (by rw [drop_size]; omega), drop_size]
    by_cases h1 : a + 1 ≤ k
    · rw [if_pos (by omega)]
      have e := shL_drop (F := F) (n := n) (a := a) (k := k - 1) (j := j) (by omega) (by omega) hj
      rw [show k * 266 + j - (a + 1) * 266 = (k - 1 - a) * 266 + j by omega, e]
      unfold shV insF
      rw [if_neg (by omega), if_neg (by omega)]
    · rw [if_neg (by omega), hc _ (by omega), shL_at (by omega) hj]
      unfold shV insF
      rw [if_pos (by omega)]
theorem ins_end {F : Nat → Nat → Int} {n : Nat} {d : Nat → Int} : ∀ k, k < n + 1 → ∀ j, j < 266 → (shL F n ++ (kc sk 266 d).toList)[k * 266 + j]? = some (shV (insF F n d) k j) := fun k hk j hj => by
  rw [List.getElem?_append, shL_len]
  by_cases h : k < n
  · rw [if_pos (by omega), shL_at h hj]
    unfold shV insF
    rw [if_pos h]
  · obtain rfl : k = n := by omega
    rw [if_neg (by omega), show k * 266 + j - k * 266 = j by omega, Array.getElem?_toList, kc_get, if_pos hj]
    unfold shV insF
    rw [if_neg h, if_pos rfl]
theorem owns_emptyW (w : World) (e : TypeId) (s : Nat) : (w.alloc (.cells #[] e)).ownsRow w.heap.size e s (.slice (some ⟨w.heap.size, 0, none⟩) 0 0) 0 [] :=
  ⟨by simp, .inr ⟨w.heap.size, 0, #[], rfl, Nat.le_refl _, by unfold World.alloc; exact Array.getElem?_push_size, Nat.le_refl _, by unfold maxLen; omega, by simp, by simp⟩⟩
theorem append_two {P : Program} (t t' ty e e' : TypeId) (i : TypeInfo) (ht : P.underlying t = some (.slice e)) (ht' : P.underlying t' = some (.slice e')) (hi : P.info? e = some i) (b : Option Addr) (n c : Nat) (y : Value) (w : World) :
    (Builtin.append_ #[t, t'] ty #[.slice b n c, y]).run P w = (Builtin.append_ #[t, t] ty #[.slice b n c, y]).run P w := by
  simp [Builtin.append_, run_underlying ht, run_underlying ht', sizeOf, typeInfo, hi]
theorem fill_all (vs cells : Array Value) (h : cells.size = vs.size) : vs.zipIdx.foldl (fun cs (c, j) => cs.setIfInBounds (0 + j) c) cells = vs := by
  have key := @Array.foldl_induction _ _ vs.zipIdx (fun k cs => cs.size = vs.size ∧ ∀ j, j < k → cs[j]? = vs[j]?) cells ⟨h, fun j hj => absurd hj (by omega)⟩ (fun (cs : Array Value) (p : Value × Nat) => cs.setIfInBounds (0 + p.2) p.1)
    (fun i cs ⟨h1, h2⟩ => by
      have hi : i.val < vs.size := by have := i.isLt; simpa using this
      have e : vs.zipIdx[i.val]'(i.isLt) = (vs[i.val], i.val) := by simp
      refine ⟨by simpa using h1, fun j hj => ?_⟩
      show (cs.setIfInBounds (0 + (vs.zipIdx[i.val]'(i.isLt)).2) (vs.zipIdx[i.val]'(i.isLt)).1)[j]? = vs[j]?
      rw [e, Nat.zero_add]
      by_cases hji : i.val = j
      · subst hji
        rw [Array.getElem?_setIfInBounds_self_of_lt (by omega)]
        simp [hi]
      · rw [Array.getElem?_setIfInBounds_ne (by omega)]
        exact h2 j (by omega))
  show Array.foldl (fun (cs : Array Value) (p : Value × Nat) => cs.setIfInBounds (0 + p.2) p.1) cells vs.zipIdx = vs
  apply Array.ext_getElem?
  intro j
  by_cases hj : j < vs.size
  · exact key.2 j (by simpa using hj)
  · rw [Array.getElem?_eq_none (by have := key.1; omega), Array.getElem?_eq_none (by omega)]
theorem run_buildSlice_one {P : Program} (w : World) (t e : TypeId) (i : TypeInfo) (z : Value) (s : Nat) (ht : P.underlying t = some (.slice e)) (hi : P.info? e = some i) (hz : i.zero = some z) (hs : i.size = s) (h0 : 0 < s) (h24 : s ≤ 16777216) (vs : Array Value) (hvs : vs.size = s) :
    (Instr.buildSlice t 1 #[(0, .agg vs)]).run P w = .ok (.slice (some ⟨w.heap.size, 0, none⟩) 1 1) (w.alloc (.cells vs e)) := by
  have hs0 : ¬ s = 0 := by omega
  have hs1 : ¬ (16777216 < s) := by omega
  have hf : ∀ z : Array Value, Instr.fill (fun i => some (i * s, s)) ((Array.range s).map (z[· % z.size]!)) [(0, .agg vs)] = some vs := fun z => by
    have hc : (Value.agg vs).cells = vs := rfl
    unfold Instr.fill Instr.fill
    simp only [hc, Nat.zero_mul]
    rw [if_neg (by simp [hvs]), fill_all _ _ (by simp [hvs])]
  simp [Instr.buildSlice, run_underlying ht, sizeOf, typeInfo, zeroValue, hi, hz, hs, hs0, hs1, hf, newRow]
theorem wp_buildSlice_one {P : Program} {o : Oper} {a : Act} {w : World} {K : Act → World → Prop} {Q : Exit → Act → World → Prop} (t : TypeId) (x : Operand) (ho : o.op = .buildSlice t 1 #[(0, x)]) (e : TypeId) (i : TypeInfo) (z : Value) (s : Nat) (ht : P.underlying t = some (.slice e)) (hi : P.info? e = some i) (hz : i.zero = some z) (hs : i.size = s) (h0 : 0 < s) (h24 : s ≤ 16777216) (vs : Array Value) (hvs : vs.size = s) (hx : a.eval x = .agg vs)
    (h : K (a.put o.dst (.slice (some ⟨w.heap.size, 0, none⟩) 1 1)) (w.alloc (.cells vs e))) : o.wp P a w K Q := by
  have hrun := run_buildSlice_one (P := P) w t e i z s ht hi hz hs h0 h24 vs hvs
  unfold Oper.wp
  simp [execOp, ho, hx, hrun, Result.andThen]
  exact h
theorem wp_buildSlice_oneW {P : Program} {o : Oper} {a : Act} {w : World} {K : Act → World → Prop} {Q : Exit → Act → World → Prop} (t : TypeId) (x : Operand) (ho : o.op = .buildSlice t 1 #[(0, x)]) (e : TypeId) (i : TypeInfo) (z : Value) (s : Nat) (ht : P.underlying t = some (.slice e)) (hi : P.info? e = some i) (hz : i.zero = some z) (hs : i.size = s) (h0 : 0 < s) (h24 : s ≤ 16777216) (vs : Array Value) (hvs : vs.size = s) (hx : a.eval x = .agg vs)
    (h : ∀ w', w' = w.alloc (.cells vs e) → K (a.put o.dst (.slice (some ⟨w.heap.size, 0, none⟩) 1 1)) w') : o.wp P a w K Q :=
  wp_buildSlice_one t x ho e i z s ht hi hz hs h0 h24 vs hvs hx (h _ rfl)
theorem run_buildSlice_none {P : Program} (w : World) (t e : TypeId) (i : TypeInfo) (ht : P.underlying t = some (.slice e)) (hi : P.info? e = some i) :
    (Instr.buildSlice t 0 #[]).run P w = .ok (.slice (some ⟨w.heap.size, 0, none⟩) 0 0) (w.alloc (.cells #[] e)) := by
  have hr : (Array.range 0).map (fun _ => (default : Value)) = #[] := by apply Array.eq_empty_of_size_eq_zero; simp
  simp [Instr.buildSlice, Instr.fill, run_underlying ht, sizeOf, typeInfo, hi, newRow, hr]
  try rfl
theorem wp_buildSlice_none {P : Program} {o : Oper} {a : Act} {w : World} {K : Act → World → Prop} {Q : Exit → Act → World → Prop} (t : TypeId) (ho : o.op = .buildSlice t 0 #[]) (e : TypeId) (i : TypeInfo) (ht : P.underlying t = some (.slice e)) (hi : P.info? e = some i)
    (h : ∀ w', w' = w.alloc (.cells #[] e) → K (a.put o.dst (.slice (some ⟨w.heap.size, 0, none⟩) 0 0)) w') : o.wp P a w K Q := by
  have hrun := run_buildSlice_none (P := P) w t e i ht hi
  unfold Oper.wp
  simp [execOp, ho, hrun, Result.andThen]
  exact h _ rfl
theorem wp_world {P : Program} {c : Code} {Q : Exit → Act → World → Prop} {a : Act} {w : World} (h : ∀ wd, wd = w → Code.wp P c Q a wd) : Code.wp P c Q a w := h w rfl
theorem shL_take {F : Nat → Nat → Int} {n a : Nat} (ha : a ≤ n) {j : Nat} {u : Value} (h : (shL F a)[j]? = some u) : (shL F n)[j]? = some u := by
  obtain ⟨hj, rfl⟩ := shL_get h
  have e := shL_at (F := F) (n := n) (k := j / 266) (j := j % 266) (by omega) (by omega)
  rwa [show j / 266 * 266 + j % 266 = j by omega] at e
theorem ins_cat {F : Nat → Nat → Int} {n a : Nat} {d : Nat → Int} (ha : a ≤ n) : ∀ k, k < n + 1 → ∀ j, j < 266 → (shL F a ++ (kc sk 266 d).toList ++ (shL F n).drop (a * 266))[k * 266 + j]? = some (shV (insF F a d) k j) := fun k hk j hj => by
  have hl : (shL F a ++ (kc sk 266 d).toList).length = (a + 1) * 266 := by rw [List.length_append, shL_len, Array.length_toList, kc_size]; omega
  rw [List.getElem?_append, hl]
  by_cases h : k < a + 1
  · rw [if_pos (by omega), ins_end k h j hj]
  · rw [if_neg (by omega), List.getElem?_drop, show a * 266 + (k * 266 + j - (a + 1) * 266) = (k - 1) * 266 + j by omega, shL_at (by omega) hj]
    unfold shV insF
    rw [if_neg (by omega), if_neg (by omega)]
end Go.Proofs.Ytkdfkhjoijfcdaa
