/- Laws of FnMarks: a mark is read from its text; an order that has been told is among all; what a picture shows at a place. No program. -/
import Derived.Test.YtejnejplofddnaaGreatDoorGqL
import Derived.Test.YtejnejplofddnaaGreatDoorRd
import Derived.Test.YtejnejplofddnaaGreatDoorGqO
import Derived.Test.YtejnejplofddnaaGreatDoorGqF
namespace Go.Proofs.YtejnejplofddnaaGreatDoor
open Go.RowKit
set_option linter.unusedVariables false
set_option linter.unusedSimpArgs false
set_option maxRecDepth 100000
theorem mark_back {col : Int} {L : List (Int × Int)} (h : markB col (gOf L) L.length = true) : sMark (markTx col (gOf L) L.length) = some (col, L) := by
  have hb := h
  unfold markB at hb
  rw [Bool.and_eq_true, Bool.and_eq_true] at hb
  have h1 := inB_true.1 hb.1.1
  have h2 := inB_true.1 hb.1.2
  have h3 := cells8_to hb.2
  have hp := all_cellsTo h3
  have h97 : (32 : UInt8) ∉ [by8 (97 + col)] ∧ colS [by8 (97 + col)] = col := by
    rcases (by omega : col = 0 ∨ col = 1 ∨ col = 2) with rfl | rfl | rfl <;> exact ⟨by decide, by rfl⟩
  have hsp : sp 32 (markTx col (gOf L) L.length) = [by8 (97 + col)] :: L.map wordP := by
    rw [markTx_yes h, cells_join]
    refine sp_join (fun y hy => ?_)
    rcases List.mem_cons.1 hy with rfl | hy
    · exact h97.1
    · obtain ⟨z, hz, rfl⟩ := List.mem_map.1 hy
      exact wordP_free (hp z hz)
  unfold sMark
  rw [hsp]
  simp only [List.length_map]
  rw [if_neg (by omega), scs_words hp]
  simp only
  rw [h97.2, if_neg (by omega)]
/-- A mark's cells as places. -/
def plL (W : Nat) (M : List Nat) : List (Int × Int) := M.map fun k => (((k % W : Nat) : Int), ((k / W : Nat) : Int))
theorem plL_len (W : Nat) (M : List Nat) : (plL W M).length = M.length := by unfold plL; rw [List.length_map]
theorem plL_fM {W : Nat} {M : List Nat} {t : Nat} (h : t < M.length * 2) : gOf (plL W M) t = fM W M t := by
  have hl : t / 2 < M.length := by omega
  unfold gOf fM plL
  rw [List.getD_eq_getElem?_getD, List.getElem?_map, List.getElem?_eq_getElem hl, List.getD_eq_getElem?_getD, List.getElem?_eq_getElem hl]
  rfl
theorem markTx_congr {col : Int} {f g : Nat → Int} {n : Nat} (h : ∀ t, t < n * 2 → f t = g t) : markTx col f n = markTx col g n ∧ markB col f n = markB col g n := by
  have h1 : cells8 f n = cells8 g n := by
    unfold cells8 CellsTo
    congr 1
    apply propext
    constructor
    · intro h2 i hi
      rw [← h _ (by omega), ← h _ (by omega)]
      exact h2 i hi
    · intro h2 i hi
      rw [h _ (by omega), h _ (by omega)]
      exact h2 i hi
  have h2 : ∀ k, k ≤ n → cellsTx f k = cellsTx g k := by
    intro k
    induction k with
    | zero => intro _; rfl
    | succ k ih => intro hk; rw [cellsTx, cellsTx, ih (by omega), h _ (by omega), h _ (by omega)]
  have h3 : markB col f n = markB col g n := by unfold markB; rw [h1]
  refine ⟨?_, h3⟩
  unfold markTx
  rw [h3, h2 n (Nat.le_refl _)]
/-- A mark that is drawn is read from its text. -/
theorem good_read {c : Nat → Int} {W N : Nat} (W0 : 0 < W) (W8 : W ≤ 8) (hN : N ≤ 8 * W) {x : Int × Value × List Nat} (h : GoodM c W N x) : rmC (markTx x.1 (fM W x.2.2) x.2.2.length) = x.1 ∧ rmL (markTx x.1 (fM W x.2.2) x.2.2.length) = plL W x.2.2 ∧ rmE (markTx x.1 (fM W x.2.2) x.2.2.length) = 0 := by
  obtain ⟨h1, h2, h3, -⟩ := h
  have hf : ∀ t, t < x.2.2.length * 2 → fM W x.2.2 t = gOf (plL W x.2.2) t := fun t ht => (plL_fM ht).symm
  have hb : markB x.1 (gOf (plL W x.2.2)) (plL W x.2.2).length = true := by
    unfold markB
    rw [plL_len, inB_true.2 h1, inB_true.2 (show 1 ≤ ((x.2.2.length : Nat) : Int) ∧ ((x.2.2.length : Nat) : Int) ≤ 64 by omega), cells8_yes (fun i hi => ?_)]; rfl
    have hg : x.2.2.getD i 0 = x.2.2[i] := by rw [List.getD_eq_getElem?_getD, List.getElem?_eq_getElem hi]; rfl
    have hk := (h3 _ (List.getElem_mem hi)).1
    rw [← hf _ (by omega), ← hf _ (by omega), (fM_even W _ i).1, (fM_even W _ i).2, hg]
    have q1 : x.2.2[i] % W < W := Nat.mod_lt _ W0
    have q2 : x.2.2[i] / W < 8 := (Nat.div_lt_iff_lt_mul W0).2 (by omega)
    generalize x.2.2[i] % W = r at *
    generalize x.2.2[i] / W = q at *
    omega
  rw [(markTx_congr hf).1]
  have := mark_back hb
  rw [plL_len] at this
  exact rm_some this
/-- All orders: what has been begun goes on to each end that the test lets by. -/
theorem ordL_has {ok : List Nat → Bool} {n : Nat} : ∀ (r l : List Nat), (l ++ r).Nodup → (∀ i ∈ r, i < n) → ok (l ++ r) = true → l ++ r ∈ ordL ok n r.length l := by
  intro r
  induction r with
  | nil =>
    intro l _ _ hok
    rw [List.append_nil] at hok ⊢
    show l ∈ ordL ok n 0 l
    unfold ordL
    rw [if_pos hok]
    exact List.mem_singleton.2 rfl
  | cons a r ih =>
    intro l hnd hr hok
    show l ++ a :: r ∈ ordL ok n (r.length + 1) l
    unfold ordL
    refine List.mem_flatMap.2 ⟨a, List.mem_range.2 (hr a (by simp)), ?_⟩
    have hal : a ∉ l := fun h => by
      have := (List.nodup_append.1 hnd).2.2 a h a (by simp)
      exact this rfl
    rw [if_neg hal]
    have e : l ++ a :: r = (l ++ [a]) ++ r := by simp
    rw [e] at hnd hok ⊢
    exact ih (l ++ [a]) hnd (fun i hi => hr i (by simp [hi])) hok
theorem ordL_nodup {ok : List Nat → Bool} {n : Nat} : ∀ {d : Nat} {l m : List Nat}, m ∈ ordL ok n d l → l.Nodup → m.Nodup := by
  intro d
  induction d with
  | zero =>
    intro l m h hl
    unfold ordL at h
    split at h
    · obtain rfl := List.mem_singleton.1 h; exact hl
    · cases h
  | succ d ih =>
    intro l m h hl
    unfold ordL at h
    obtain ⟨i, hi, h⟩ := List.mem_flatMap.1 h
    split at h
    · cases h
    · rename_i hil
      refine ih h ?_
      rw [List.nodup_append]
      refine ⟨hl, by simp, fun a ha b hb => ?_⟩
      obtain rfl := List.mem_singleton.1 hb
      exact fun e => hil (e ▸ ha)
theorem eqL_refl (A : List (List UInt8)) : eqL A A = true := by unfold eqL; simp
theorem eqL_eq {A B : List (List UInt8)} (h : eqL A B = true) : A = B := by unfold eqL at h; simpa using h
/-- The picture of an order. -/
def picO (c : Nat → Int) (F : Nat → Mk) (T : List Nat) : List (List UInt8) := linB (chP c (pntG F T)) (c 0).toNat (c 1).toNat
theorem turn_in {c : Nat → Int} {n : Nat} {F : Nat → Mk} {T : List Nat} (hT : T.Perm (List.range n)) : T ∈ allO c n F (picO c F T) := by
  have hl : T.length = n := by rw [hT.length_eq, List.length_range]
  have hnd : T.Nodup := hT.nodup_iff.2 List.nodup_range
  have := ordL_has (ok := okPic c F (c 0).toNat (c 1).toNat (picO c F T)) (n := n) T [] (by simpa using hnd) (fun i hi => List.mem_range.1 (hT.mem_iff.1 hi)) (by show eqL _ _ = true; exact eqL_refl _)
  unfold allO
  rw [hl] at this
  simpa using this
theorem all_pic {c : Nat → Int} {n : Nat} {F : Nat → Mk} {P : List (List UInt8)} {m : List Nat} (h : m ∈ allO c n F P) : picO c F m = P ∧ PrmP (nl m) n n ∧ m.length = n ∧ ∀ i ∈ m, i < n := by
  obtain ⟨h1, h2, h3⟩ := ordL_len h
  have hl : m.length = n := by simpa using h1
  have hlt := h3 (fun i hi => by cases hi)
  have hnd := ordL_nodup h (by simp)
  refine ⟨eqL_eq h2, ⟨rfl, fun i hi => ?_, fun j hj i hi e => ?_⟩, hl, hlt⟩
  · rw [nl_at (List.getElem?_eq_getElem (show i < m.length by omega))]
    have := hlt _ (List.getElem_mem (show i < m.length by omega))
    omega
  · have h1 := (List.pairwise_iff_getElem.1 hnd) i j (by omega) (by omega) hi
    rw [nl_at (List.getElem?_eq_getElem (show i < m.length by omega)), nl_at (List.getElem?_eq_getElem (show j < m.length by omega))] at e
    exact h1 (by omega)
theorem orL_nl {m : List Nat} {n : Nat} (h : m.length = n) : orL (nl m) n = m := by
  apply List.ext_getElem?
  intro i
  unfold orL
  rw [List.getElem?_map]
  by_cases hi : i < n
  · have h2 : i < m.length := by omega
    rw [List.getElem?_range hi, List.getElem?_eq_getElem h2]
    simp only [Option.map_some]
    rw [nl_at (List.getElem?_eq_getElem h2), Int.toNat_natCast]
  · rw [List.getElem?_eq_none (by rw [List.length_range]; omega), List.getElem?_eq_none (by omega)]; rfl
theorem pm_of {c : Nat → Int} {n : Nat} {F : Nat → Mk} {m : List Nat} (hv : vmB c n F = true) (hl : m.length = n) (hp : PrmP (nl m) n n) : pmL c n F (nl m) n = picO c F m ∧ pmE c n F (nl m) n = 0 := by
  obtain ⟨h1, h2⟩ := pm_ok hv (prm_yes hp)
  refine ⟨?_, h2⟩
  rw [h1, orL_nl hl]; rfl
/-- What is shown at a place. -/
theorem rowB_at (ch : Nat → Nat → UInt8) (y : Nat) : ∀ {x k : Nat}, k < x → (rowB ch y x)[k]? = some (ch k y)
  | x + 1, k, h => by
    show (rowB ch y x ++ [ch x y])[k]? = _
    by_cases hk : k < x
    · rw [List.getElem?_append_left (by rw [rowB_len]; exact hk)]
      exact rowB_at ch y hk
    · have e : k = x := by omega
      subst e
      rw [List.getElem?_append_right (by rw [rowB_len]; exact Nat.le_refl _), rowB_len, Nat.sub_self]; rfl
theorem linB_at (ch : Nat → Nat → UInt8) (W : Nat) : ∀ {y k : Nat}, k < y → (linB ch W y)[k]? = some (rowB ch k W)
  | y + 1, k, h => by
    show (linB ch W y ++ [rowB ch y W])[k]? = _
    by_cases hk : k < y
    · rw [List.getElem?_append_left (by rw [linB_len]; exact hk)]
      exact linB_at ch W hk
    · have e : k = y := by omega
      subst e
      rw [List.getElem?_append_right (by rw [linB_len]; exact Nat.le_refl _), linB_len, Nat.sub_self]; rfl
/-- Where a number stands in a list that has each once. -/
theorem ixL_at {T : List Nat} (hT : T.Nodup) {i k : Nat} (h : T[k]? = some i) : ixL T i = (k : Int) := ixL_hit h (fun j hj e => by
  obtain ⟨hk, e1⟩ := List.getElem?_eq_some_iff.1 h
  obtain ⟨hj2, e2⟩ := List.getElem?_eq_some_iff.1 e
  exact (List.pairwise_iff_getElem.1 hT) j k hj2 hk hj (by rw [e1, e2]))
/-- Two marks of which the one is surely before the other stand so in each order. -/
theorem su_turn {L : List (List Nat)} {T : List Nat} {a b : Nat} (hT : T ∈ L) (h : suB L a b = true) : ixL T a ≤ ixL T b := by
  unfold suB at h
  rw [Bool.not_eq_true'] at h
  rw [List.any_eq_false] at h
  have := h T hT
  unfold behB at this
  simp only [decide_eq_true_eq] at this
  omega
end Go.Proofs.YtejnejplofddnaaGreatDoor
