/- Several texts in one: FRead MRead OpenStr SplS ReadI FReadI FReadS MReadI. -/
import Derived.Test.YtejnejplofddnaaGreatDoorGqS
import Derived.Test.YtejnejplofddnaaGreatDoorGqA
import Derived.Test.YtejnejplofddnaaGreatDoorBase
import Derived.WideShapes
import Derived.ChangeArms
import Derived.Test.YtejnejplofddnaaGreatDoorGqB
import Derived.Test.YtejnejplofddnaaGreatDoorShelfD
import Derived.Test.YtejnejplofddnaaGreatDoorWrap
import Derived.Stop.LaidErr
import Derived.Maps.AppendAt
import Derived.Test.YtejnejplofddnaaGreatDoorGqC
import Derived.Deep.Heap
/- Folds read from a text: plain. -/
namespace Go.Proofs.YtejnejplofddnaaGreatDoor
set_option linter.unusedVariables false
set_option linter.unusedSimpArgs false
set_option maxRecDepth 100000
/-- A digit is not a byte below the digits. -/
theorem by8_toNat {i : Nat} (hi : i < 10) : (by8 (48 + (i : Int))).toNat = 48 + i := by
  unfold by8
  rw [UInt8.toNat_ofNat']; omega
theorem by8_ne {i : Nat} (hi : i < 10) {b : UInt8} (hb : b.toNat < 48) : b ≠ by8 (48 + (i : Int)) := fun e => by
  have := congrArg UInt8.toNat e
  rw [by8_toNat hi] at this
  omega
/-- The fold of a word: the reference. -/
def sfk (k : UInt8) (l v : List UInt8) : Option Fd :=
  match numB l, numB v with
  | some a, some p => if a ≤ 8 ∧ p ≤ 8 ∧ plainB ⟨(a : Int), k == 104, (p : Int)⟩ = true then some ⟨(a : Int), k == 104, (p : Int)⟩ else none
  | _, _ => none
def sfw (w : List UInt8) : Option Fd :=
  match sp 47 w with
  | [k :: d :: r, v] => if k = 118 ∨ k = 104 then sfk k (d :: r) v else none
  | _ => none
def sfs : List (List UInt8) → Option (List Fd)
  | [] => some []
  | w :: r => match sfw w with
    | none => none
    | some x => match sfs r with
      | none => none
      | some l => some (x :: l)
def sFolds (t : List UInt8) : Option (List Fd) := if t = [] then some [] else if 30 < (sp 32 t).length then none else sfs (sp 32 t)
/-- The program's. -/
def ifw (w : List UInt8) : Fd := ⟨IntKind.i8.wrap (pi8 (cut1 47 (w.drop 1))), w[0]? == some 104, IntKind.i8.wrap (pi8 (cut2 47 (w.drop 1)))⟩
def ifs : List (List UInt8) → List Fd
  | [] => []
  | w :: r => if w = [] then ifs r else ifw w :: ifs r
def iFolds (t : List UInt8) : List Fd := ifs (sp 32 t)
def fnOf (L : List Fd) : Nat → Fd := fun k => L.getD k ⟨0, false, 0⟩
theorem plain_nat {x : Fd} (h : plainB x = true) : ∃ a p : Nat, 1 ≤ a ∧ a ≤ 7 ∧ 1 ≤ p ∧ p ≤ 8 ∧ x = ⟨(a : Int), x.d, (p : Int)⟩ := by
  obtain ⟨⟨h1, h2⟩, h3, h4⟩ := plainB_true h
  obtain ⟨a, d, p⟩ := x
  simp only at h1 h2 h3 h4
  refine ⟨a.toNat, p.toNat, by omega, by omega, by omega, by omega, ?_⟩
  rw [Int.toNat_of_nonneg (by omega), Int.toNat_of_nonneg (by omega)]
theorem kind_ne (d : Bool) {b : UInt8} (hb : b.toNat < 48) : b ≠ kindB d := fun e => by
  subst e
  cases d <;> (revert hb; decide)
theorem fold_free {x : Fd} (h : plainB x = true) : (32 : UInt8) ∉ foldTx x := by
  obtain ⟨a, p, h1, h2, h3, h4, hx⟩ := plain_nat h
  rw [hx]
  unfold foldTx
  intro hm
  simp only [List.mem_cons, List.not_mem_nil, or_false] at hm
  rcases hm with e | e | e | e
  · exact kind_ne _ (by decide) e
  · exact by8_ne (by omega) (by decide) e
  · revert e; decide
  · exact by8_ne (by omega) (by decide) e
theorem fold_sp {x : Fd} (h : plainB x = true) : sp 47 (foldTx x) = [[kindB x.d, by8 (48 + x.a)], [by8 (48 + x.p)]] := by
  obtain ⟨a, p, h1, h2, h3, h4, hx⟩ := plain_nat h
  rw [hx]
  have e1 : (47 : UInt8) ∉ [kindB x.d, by8 (48 + (a : Int))] := fun hm => by
    simp only [List.mem_cons, List.not_mem_nil, or_false] at hm
    rcases hm with e | e
    · exact kind_ne _ (by decide) e
    · exact by8_ne (by omega) (by decide) e
  have e2 : (47 : UInt8) ∉ [by8 (48 + (p : Int))] := fun hm => by
    simp only [List.mem_cons, List.not_mem_nil, or_false] at hm
    exact by8_ne (by omega) (by decide) hm
  show sp 47 ([kindB x.d, by8 (48 + (a : Int))] ++ 47 :: [by8 (48 + (p : Int))]) = _
  rw [sp_app e1, sp_one e2]
theorem kind_is (d : Bool) : (kindB d == 104) = d := by cases d <;> rfl
theorem kind_or (d : Bool) : kindB d = 118 ∨ kindB d = 104 := by cases d <;> decide
theorem sfw_fold {x : Fd} (h : plainB x = true) : sfw (foldTx x) = some x := by
  have h0 := h
  obtain ⟨a, p, h1, h2, h3, h4, hx⟩ := plain_nat h
  unfold sfw
  rw [fold_sp h]
  simp only [if_pos (kind_or x.d)]
  unfold sfk
  have ha : x.a = (a : Int) := by rw [hx]
  have hp : x.p = (p : Int) := by rw [hx]
  rw [ha, hp, numB_dig (by omega), numB_dig (by omega)]
  simp only [kind_is]
  rw [← hx, if_pos ⟨by omega, by omega, h0⟩]
theorem sfw_some {w : List UInt8} {x : Fd} (h : sfw w = some x) : w = foldTx x ∧ plainB x = true := by
  unfold sfw at h
  split at h
  · rename_i k d r v hs
    split at h
    · rename_i hk
      unfold sfk at h
      split at h
      · rename_i a p ha hp
        split at h
        · rename_i hc
          simp only [Option.some.injEq] at h
          subst h
          refine ⟨?_, hc.2.2⟩
          rw [(sp_two hs).1, numB_small ha (by omega), numB_small hp (by omega)]
          unfold foldTx
          rcases hk with rfl | rfl <;> rfl
        · cases h
      · cases h
    · cases h
  · cases h
theorem ifw_fold {x : Fd} (h : plainB x = true) : ifw (foldTx x) = x := by
  obtain ⟨a, p, h1, h2, h3, h4, hx⟩ := plain_nat h
  have ha : x.a = (a : Int) := by rw [hx]
  have hp : x.p = (p : Int) := by rw [hx]
  have e1 : (47 : UInt8) ∉ [by8 (48 + (a : Int))] := fun hm => by
    simp only [List.mem_cons, List.not_mem_nil, or_false] at hm
    exact by8_ne (by omega) (by decide) hm
  have hd : (foldTx x).drop 1 = [by8 (48 + (a : Int))] ++ 47 :: [by8 (48 + (p : Int))] := by unfold foldTx; rw [ha, hp]; rfl
  have h0 : ((foldTx x)[0]? == some 104) = x.d := by
    show (some (kindB x.d) == some 104) = x.d
    cases x.d <;> rfl
  unfold ifw
  rw [hd, (cut_app e1 _).1, (cut_app e1 _).2, pi8_dig (by omega), pi8_dig (by omega), h0]
  rw [hx]
  congr 1
  · simp only [IntKind.wrap, IntKind.bits, IntKind.signed]; simp; omega
  · simp only [IntKind.wrap, IntKind.bits, IntKind.signed]; simp; omega
theorem sfs_some : ∀ {l : List (List UInt8)} {L : List Fd}, sfs l = some L → l = L.map foldTx ∧ ∀ x ∈ L, plainB x = true
  | [], L, h => by simp [sfs] at h; subst h; exact ⟨rfl, fun x hx => by cases hx⟩
  | w :: r, L, h => by
    unfold sfs at h
    split at h
    · cases h
    · rename_i x hx
      split at h
      · cases h
      · rename_i l hl
        simp only [Option.some.injEq] at h
        subst h
        obtain ⟨h1, h2⟩ := sfs_some hl
        obtain ⟨h3, h4⟩ := sfw_some hx
        refine ⟨by rw [List.map_cons, ← h3, ← h1], fun y hy => ?_⟩
        rcases List.mem_cons.1 hy with rfl | hy
        · exact h4
        · exact h2 y hy
theorem sfs_folds : ∀ {L : List Fd}, (∀ x ∈ L, plainB x = true) → sfs (L.map foldTx) = some L
  | [], _ => rfl
  | x :: L, h => by rw [List.map_cons, sfs, sfw_fold (h x (by simp)), sfs_folds (fun y hy => h y (List.mem_cons_of_mem _ hy))]
theorem ifs_folds : ∀ {L : List Fd}, (∀ x ∈ L, plainB x = true) → ifs (L.map foldTx) = L
  | [], _ => rfl
  | x :: L, h => by rw [List.map_cons, ifs, if_neg (by unfold foldTx; simp), ifw_fold (h x (by simp)), ifs_folds (fun y hy => h y (List.mem_cons_of_mem _ hy))]
theorem fnOf_at {L : List Fd} {k : Nat} (h : k < L.length) : fnOf L k = L[k] := by unfold fnOf; rw [List.getD_eq_getElem?_getD, List.getElem?_eq_getElem h]; rfl
theorem foldW_take (L : List Fd) : ∀ k, k ≤ L.length → foldW (fnOf L) k = (L.take k).map foldTx
  | 0, _ => rfl
  | k + 1, h => by
    show foldW (fnOf L) k ++ [foldTx (fnOf L k)] = _
    rw [foldW_take L k (by omega), fnOf_at (by omega), List.take_add_one, List.getElem?_eq_getElem (by omega), List.map_append]; rfl
theorem folds_join (L : List Fd) : foldsTx (fnOf L) L.length = Lib.join (L.map foldTx) [32] := by
  rw [← foldW_join, foldW_take L _ (Nat.le_refl _), List.take_length]
theorem foTo_all {L : List Fd} (h : ∀ x ∈ L, plainB x = true) : FoTo (fnOf L) L.length := fun k hk => by
  rw [fnOf_at hk]; exact plainB_true (h _ (List.getElem_mem hk))
theorem all_foTo {L : List Fd} (h : FoTo (fnOf L) L.length) : ∀ x ∈ L, plainB x = true := fun x hx => by
  obtain ⟨k, hk, rfl⟩ := List.getElem_of_mem hx
  have := h k hk
  rw [fnOf_at hk] at this
  unfold plainB
  rw [inB_true.2 this.1, inB_true.2 this.2]; rfl
open Classical in
theorem foB_to {F : Nat → Fd} {n : Nat} (h : foB F n = true) : FoTo F n ∧ n ≤ 30 := by
  unfold foB at h
  rw [Bool.and_eq_true] at h
  exact ⟨of_decide_eq_true h.1, of_decide_eq_true h.2⟩
/-- The law. -/
theorem folds_read (t : List UInt8) : (∃ L, sFolds t = some L ∧ iFolds t = L ∧ fTx (fnOf L) L.length = t) ∨ (sFolds t = none ∧ fTx (fnOf (iFolds t)) (iFolds t).length ≠ t) := by
  cases hs : sFolds t with
  | some L =>
    refine .inl ⟨L, rfl, ?_⟩
    unfold sFolds at hs
    split at hs
    · rename_i ht
      simp only [Option.some.injEq] at hs
      subst hs ht
      exact ⟨rfl, fTx_yes (fun k hk => absurd hk (Nat.not_lt_zero _)) (by simp)⟩
    · split at hs
      · cases hs
      · rename_i ht hl
        obtain ⟨h1, h2⟩ := sfs_some hs
        refine ⟨by unfold iFolds; rw [h1, ifs_folds h2], ?_⟩
        rw [fTx_yes (foTo_all h2) (by have := congrArg List.length h1; rw [List.length_map] at this; omega), folds_join, ← h1, join_sp]
  | none =>
    refine .inr ⟨rfl, fun he => ?_⟩
    generalize iFolds t = L at he
    have ht : t ≠ [] := fun e => by rw [e] at hs; cases hs
    unfold fTx at he
    split at he
    · rename_i hb
      obtain ⟨h1, h2⟩ := foB_to hb
      rw [folds_join] at he
      have hp := all_foTo h1
      have hsp : sp 32 t = L.map foldTx := by
        cases L with
        | nil => exact absurd he.symm ht
        | cons x r =>
          rw [← he]
          refine sp_join (fun y hy => ?_)
          obtain ⟨z, hz, rfl⟩ := List.mem_map.1 (show y ∈ List.map foldTx (x :: r) from hy)
          exact fold_free (hp z hz)
      unfold sFolds at hs
      rw [if_neg ht, hsp, if_neg (by rw [List.length_map]; omega), sfs_folds hp] at hs
      cases hs
    · exact ht he.symm
end Go.Proofs.YtejnejplofddnaaGreatDoor
/- A mark read from a text: plain. -/
namespace Go.Proofs.YtejnejplofddnaaGreatDoor
set_option linter.unusedVariables false
set_option linter.unusedSimpArgs false
set_option maxRecDepth 100000
/-- The cell of a word: the reference. -/
def scw (w : List UInt8) : Option (Int × Int) :=
  match sp 44 w with
  | [u, v] => match numB u, numB v with
    | some x, some y => if x < 8 ∧ y < 8 then some ((x : Int), (y : Int)) else none
    | _, _ => none
  | _ => none
def scs : List (List UInt8) → Option (List (Int × Int))
  | [] => some []
  | w :: r => match scw w with
    | none => none
    | some x => match scs r with
      | none => none
      | some l => some (x :: l)
def colS (w : List UInt8) : Int := if w = [97] then 0 else if w = [98] then 1 else if w = [99] then 2 else -1
def sMark (t : List UInt8) : Option (Int × List (Int × Int)) :=
  match sp 32 t with
  | [] => none
  | c :: r => if r.length < 1 ∨ 64 < r.length then none else match scs r with
    | none => none
    | some L => if colS c = -1 then none else some (colS c, L)
/-- The program's. -/
def icw (w : List UInt8) : Int × Int := (IntKind.i8.wrap (pi8 (cut1 44 w)), IntKind.i8.wrap (pi8 (cut2 44 w)))
def colI (w : List UInt8) : Int := IntKind.i8.wrap (Lib.index [97, 98, 99] w)
def iMark (t : List UInt8) : Int × List (Int × Int) :=
  match sp 32 t with
  | [] => (0, [])
  | c :: r => (colI c, r.map icw)
def gOf (L : List (Int × Int)) : Nat → Int := fun j => if j % 2 = 0 then (L.getD (j / 2) (0, 0)).1 else (L.getD (j / 2) (0, 0)).2
theorem gOf_even {L : List (Int × Int)} {k : Nat} (h : k < L.length) : gOf L (k * 2) = L[k].1 := by
  unfold gOf
  rw [if_pos (by omega), show k * 2 / 2 = k from by omega, List.getD_eq_getElem?_getD, List.getElem?_eq_getElem h]; rfl
theorem gOf_odd {L : List (Int × Int)} {k : Nat} (h : k < L.length) : gOf L (k * 2 + 1) = L[k].2 := by
  unfold gOf
  rw [if_neg (by omega), show (k * 2 + 1) / 2 = k from by omega, List.getD_eq_getElem?_getD, List.getElem?_eq_getElem h]; rfl
def inP (p : Int × Int) : Prop := (0 ≤ p.1 ∧ p.1 ≤ 7) ∧ 0 ≤ p.2 ∧ p.2 ≤ 7
def wordP (p : Int × Int) : List UInt8 := [by8 (48 + p.1), 44, by8 (48 + p.2)]
theorem inP_nat {p : Int × Int} (h : inP p) : ∃ a b : Nat, a ≤ 7 ∧ b ≤ 7 ∧ p = ((a : Int), (b : Int)) := by
  obtain ⟨⟨h1, h2⟩, h3, h4⟩ := h
  exact ⟨p.1.toNat, p.2.toNat, by omega, by omega, by rw [Int.toNat_of_nonneg h1, Int.toNat_of_nonneg h3]⟩
theorem dig_no {a : Nat} (ha : a < 10) {b : UInt8} (hb : b.toNat < 48) : b ∉ [by8 (48 + (a : Int))] := fun hm => by
  simp only [List.mem_cons, List.not_mem_nil, or_false] at hm
  exact by8_ne ha hb hm
theorem wordP_free {p : Int × Int} (h : inP p) : (32 : UInt8) ∉ wordP p := by
  obtain ⟨a, b, ha, hb, rfl⟩ := inP_nat h
  intro hm
  unfold wordP at hm
  simp only [List.mem_cons, List.not_mem_nil, or_false] at hm
  rcases hm with e | e | e
  · exact by8_ne (by omega) (by decide) e
  · revert e; decide
  · exact by8_ne (by omega) (by decide) e
theorem scw_word {p : Int × Int} (h : inP p) : scw (wordP p) = some p := by
  obtain ⟨a, b, ha, hb, rfl⟩ := inP_nat h
  unfold scw
  have e : sp 44 (wordP ((a : Int), (b : Int))) = [[by8 (48 + (a : Int))], [by8 (48 + (b : Int))]] := by
    show sp 44 ([by8 (48 + (a : Int))] ++ 44 :: [by8 (48 + (b : Int))]) = _
    rw [sp_app (dig_no (by omega) (by decide)), sp_one (dig_no (by omega) (by decide))]
  rw [e]
  simp only [numB_dig (show a < 10 from by omega), numB_dig (show b < 10 from by omega)]
  rw [if_pos ⟨by omega, by omega⟩]
theorem scw_some {w : List UInt8} {p : Int × Int} (h : scw w = some p) : w = wordP p ∧ inP p := by
  unfold scw at h
  split at h
  · rename_i u v hs
    split at h
    · rename_i x y hx hy
      split at h
      · rename_i hc
        simp only [Option.some.injEq] at h
        subst h
        refine ⟨?_, ⟨by omega, by simp only; omega⟩, by simp only; omega, by simp only; omega⟩
        rw [(sp_two hs).1, numB_small hx (by omega), numB_small hy (by omega)]; rfl
      · cases h
    · cases h
  · cases h
theorem wrap8_in {n : Int} (h : -128 ≤ n ∧ n ≤ 127) : IntKind.i8.wrap n = n := by simp only [IntKind.wrap, IntKind.bits, IntKind.signed]; simp; omega
theorem icw_word {p : Int × Int} (h : inP p) : icw (wordP p) = p := by
  obtain ⟨a, b, ha, hb, rfl⟩ := inP_nat h
  unfold icw
  have e : wordP ((a : Int), (b : Int)) = [by8 (48 + (a : Int))] ++ 44 :: [by8 (48 + (b : Int))] := rfl
  rw [e, (cut_app (dig_no (by omega) (by decide)) _).1, (cut_app (dig_no (by omega) (by decide)) _).2, pi8_dig (by omega), pi8_dig (by omega), wrap8_in (by omega), wrap8_in (by omega)]
theorem scs_some : ∀ {l : List (List UInt8)} {L : List (Int × Int)}, scs l = some L → l = L.map wordP ∧ ∀ x ∈ L, inP x
  | [], L, h => by simp [scs] at h; subst h; exact ⟨rfl, fun x hx => by cases hx⟩
  | w :: r, L, h => by
    unfold scs at h
    split at h
    · cases h
    · rename_i x hx
      split at h
      · cases h
      · rename_i l hl
        simp only [Option.some.injEq] at h
        subst h
        obtain ⟨h1, h2⟩ := scs_some hl
        obtain ⟨h3, h4⟩ := scw_some hx
        refine ⟨by rw [List.map_cons, ← h3, ← h1], fun y hy => ?_⟩
        rcases List.mem_cons.1 hy with rfl | hy
        · exact h4
        · exact h2 y hy
theorem scs_words : ∀ {L : List (Int × Int)}, (∀ x ∈ L, inP x) → scs (L.map wordP) = some L
  | [], _ => rfl
  | x :: L, h => by rw [List.map_cons, scs, scw_word (h x (by simp)), scs_words (fun y hy => h y (List.mem_cons_of_mem _ hy))]
theorem ics_words : ∀ {L : List (Int × Int)}, (∀ x ∈ L, inP x) → (L.map wordP).map icw = L
  | [], _ => rfl
  | x :: L, h => by rw [List.map_cons, List.map_cons, icw_word (h x (by simp)), ics_words (fun y hy => h y (List.mem_cons_of_mem _ hy))]
theorem cellsTx_take (L : List (Int × Int)) : ∀ k, k ≤ L.length → cellsTx (gOf L) k = Lib.joinTail [32] ((L.take k).map wordP)
  | 0, _ => rfl
  | k + 1, h => by
    rw [cellsTx, cellsTx_take L k (by omega), List.take_add_one, List.getElem?_eq_getElem (by omega), List.map_append, gOf_even (by omega), gOf_odd (by omega)]
    exact (joinTail_snoc _ _ _).symm
theorem cells_join (c : List UInt8) (L : List (Int × Int)) : c ++ cellsTx (gOf L) L.length = Lib.join (c :: L.map wordP) [32] := by
  rw [Lib.join_cons, cellsTx_take L _ (Nat.le_refl _), List.take_length]
theorem cellsTo_all {L : List (Int × Int)} (h : ∀ x ∈ L, inP x) : CellsTo (gOf L) L.length := fun k hk => by
  rw [gOf_even hk, gOf_odd hk]; exact h _ (List.getElem_mem hk)
theorem all_cellsTo {L : List (Int × Int)} (h : CellsTo (gOf L) L.length) : ∀ x ∈ L, inP x := fun x hx => by
  obtain ⟨k, hk, rfl⟩ := List.getElem_of_mem hx
  have := h k hk
  rwa [gOf_even hk, gOf_odd hk] at this
theorem colS_cases {c : List UInt8} (h : colS c ≠ -1) : (c = [97] ∧ colS c = 0) ∨ (c = [98] ∧ colS c = 1) ∨ (c = [99] ∧ colS c = 2) := by
  unfold colS at h ⊢
  split at h
  · rename_i e; rw [if_pos e]; exact .inl ⟨e, rfl⟩
  · split at h
    · rename_i e1 e; rw [if_neg e1, if_pos e]; exact .inr (.inl ⟨e, rfl⟩)
    · split at h
      · rename_i e1 e2 e; rw [if_neg e1, if_neg e2, if_pos e]; exact .inr (.inr ⟨e, rfl⟩)
      · exact absurd rfl h
theorem col_same {c : List UInt8} (h : colS c ≠ -1) : colI c = colS c ∧ c = [by8 (97 + colS c)] ∧ (colS c = 0 ∨ colS c = 1 ∨ colS c = 2) := by
  rcases colS_cases h with ⟨e, h⟩ | ⟨e, h⟩ | ⟨e, h⟩ <;> (rw [h, e]; refine ⟨by rfl, by rfl, by simp⟩)
/-- The law. -/
theorem mark_read (t : List UInt8) : (∃ col L, sMark t = some (col, L) ∧ iMark t = (col, L) ∧ t ≠ [] ∧ markTx col (gOf L) L.length = t) ∨ (sMark t = none ∧ (t = [] ∨ markTx (iMark t).1 (gOf (iMark t).2) (iMark t).2.length ≠ t)) := by
  cases hs : sMark t with
  | some q =>
    obtain ⟨col, L⟩ := q
    refine .inl ⟨col, L, rfl, ?_⟩
    have hj := join_sp 32 t
    unfold sMark at hs
    unfold iMark
    split at hs
    · cases hs
    · rename_i c r hsp
      rw [hsp] at hj
      try rw [hsp]
      split at hs
      · cases hs
      · rename_i hl
        split at hs
        · cases hs
        · rename_i L' hL
          split at hs
          · cases hs
          · rename_i hc
            simp only [Option.some.injEq, Prod.mk.injEq] at hs
            obtain ⟨rfl, rfl⟩ := hs
            obtain ⟨h1, h2⟩ := scs_some hL
            obtain ⟨h3, h4, h5⟩ := col_same hc
            have hlen : L'.length = r.length := by rw [h1, List.length_map]
            refine ⟨by rw [h3, h1, ics_words h2], ?_, ?_⟩
            · intro e
              rw [← hj, h4, Lib.join_cons] at e
              cases e
            have hm : markB (colS c) (gOf L') L'.length = true := by
              unfold markB
              rw [inB_true.2 (show 0 ≤ colS c ∧ colS c ≤ 2 by omega), inB_true.2 (show 1 ≤ (L'.length : Int) ∧ (L'.length : Int) ≤ 64 by omega), cells8_yes (cellsTo_all h2)]; rfl
            rw [markTx_yes hm, ← h4, cells_join, ← h1, hj]
  | none =>
    refine .inr ⟨rfl, ?_⟩
    by_cases ht : t = []
    · exact .inl ht
    refine .inr (fun he => ?_)
    generalize (iMark t).1 = col at he
    generalize (iMark t).2 = L at he
    unfold markTx at he
    split at he
    · rename_i hb
      unfold markB at hb
      rw [Bool.and_eq_true, Bool.and_eq_true] at hb
      have h1 := inB_true.1 hb.1.1
      have h2 := inB_true.1 hb.1.2
      have h3 := cells8_to hb.2
      rw [cells_join] at he
      have hp := all_cellsTo h3
      have h97 : (32 : UInt8) ∉ [by8 (97 + col)] ∧ colS [by8 (97 + col)] = col := by
        rcases (by omega : col = 0 ∨ col = 1 ∨ col = 2) with rfl | rfl | rfl <;> exact ⟨by decide, by rfl⟩
      have hsp : sp 32 t = [by8 (97 + col)] :: L.map wordP := by
        rw [← he]
        refine sp_join (fun y hy => ?_)
        rcases List.mem_cons.1 hy with rfl | hy
        · exact h97.1
        · obtain ⟨z, hz, rfl⟩ := List.mem_map.1 hy
          exact wordP_free (hp z hz)
      unfold sMark at hs
      rw [hsp] at hs
      simp only [List.length_map] at hs
      rw [if_neg (by omega), scs_words hp] at hs
      simp only [h97.2] at hs
      rw [if_neg (by omega)] at hs
      cases hs
    · exact ht he.symm
end Go.Proofs.YtejnejplofddnaaGreatDoor
/- A text among the arguments. -/
namespace Go.Proofs.YtejnejplofddnaaGreatDoor
open Go.WideShapes Go.ChangeShapes
set_option linter.unusedVariables false
set_option linter.unusedSimpArgs false
set_option maxRecDepth 100000
theorem open_str {H : Type} {enc : TypeId × Value → H} {P : Program} {w : World} {base : Nat} {sp : Nat → Bool} {held : Bool} {r : Reach} {b0 : Nat} {t : TypeId} {v : Value} {d : DataW H} {ps : List MemPlace} (ht : P.underlying t = some .string) (hval : Value.okWide P w r b0 t v) (hd : DataW.Trod enc P w base sp held t v d ps) :
    ∃ s : ByteArray, v = .string s ∧ s.size ≤ maxLen := by
  obtain ⟨s, rfl⟩ := okWide_string ht hval
  obtain ⟨fuel, hf⟩ := hd
  obtain ⟨s', h, hx, hs⟩ := DataW.trod_string ht hf
  simp [Value.cells] at h
  subst h
  exact ⟨s, rfl, hs⟩
end Go.Proofs.YtejnejplofddnaaGreatDoor
/- The reference's words and numbers. -/
namespace Go.Proofs.YtejnejplofddnaaGreatDoor
open Go.RowKit
set_option linter.unusedVariables false
set_option linter.unusedSimpArgs false
set_option maxRecDepth 100000
attribute [go_sem] tx_list
/-- A byte of a text. -/
def chX (t : TypeId) (s i : Value) : Sem Value := Instr.index t s i
def chR (o : Option UInt8) (w : World) (r : Result Value) : Result Value := match o with | some c => .ok (.int .u8 (c.toNat : Int)) w | none => r
@[go_sem] theorem chR_some (c : UInt8) (w : World) (r : Result Value) : chR (some c) w r = .ok (.int .u8 (c.toNat : Int)) w := rfl
@[go_sem ↓] theorem chr_at (l : List UInt8) (i : Nat) (k : IntKind) (w : World) : (Instr.index 9 (.string (tx l)) (.int k (i : Int))).run Tryz.prog w = chR (l[i]?) w ((chX 9 (.string (tx l)) (.int k (i : Int))).run Tryz.prog w) := by
  unfold chR
  split
  · rename_i c hc
    obtain ⟨hi, he⟩ := List.getElem?_eq_some_iff.1 hc
    rw [run_index_string _ _ _ _ _ Tryz.underlying9, dif_pos ⟨by omega, by rw [tx_size]; omega⟩]
    have : (tx l)[(i : Int).toNat]'(by rw [tx_size, Int.toNat_natCast]; exact hi) = l[i] := rfl
    rw [this, he]
  · rfl
@[go_sem ↓] theorem chr_at0 (l : List UInt8) (k : IntKind) (w : World) : (Instr.index 9 (.string (tx l)) (.int k 0)).run Tryz.prog w = chR (l[0]?) w ((chX 9 (.string (tx l)) (.int k 0)).run Tryz.prog w) := chr_at l 0 k w
/-- A piece of a text. -/
def sgX (t : TypeId) (s : Value) (a b c : Option Value) : Sem Value := Instr.slice t s a b c
@[go_sem ↓] theorem seg_at (l : List UInt8) (a i : Nat) (k k' : IntKind) (w : World) : (Instr.slice 9 (.string (tx l)) (some (.int k (a : Int))) (some (.int k' (i : Int))) none).run Tryz.prog w = selLe i l.length (selLe a i (.ok (.string (tx (seg l a i))) w) ((sgX 9 (.string (tx l)) (some (.int k (a : Int))) (some (.int k' (i : Int))) none).run Tryz.prog w)) ((sgX 9 (.string (tx l)) (some (.int k (a : Int))) (some (.int k' (i : Int))) none).run Tryz.prog w) := by
  unfold selLe
  split
  · split
    · rename_i h1 h2
      rw [run_slice_string w _ _ _ _ _ _ Tryz.underlying9 (by omega) (by omega) (by rw [tx_size]; omega)]
      show Result.ok (Value.string ((tx l).extract a i)) w = _
      unfold tx seg
      rw [ByteArray.extract_mk]
    · rfl
  · rfl
@[go_sem ↓] theorem seg_from (l : List UInt8) (a : Nat) (k : IntKind) (w : World) : (Instr.slice 9 (.string (tx l)) (some (.int k (a : Int))) none none).run Tryz.prog w = selLe a l.length (.ok (.string (tx (l.drop a))) w) ((sgX 9 (.string (tx l)) (some (.int k (a : Int))) none none).run Tryz.prog w) := by
  unfold selLe
  split
  · rename_i h1
    rw [run_slice_string_l w _ _ Tryz.underlying9 _ _ (by omega) (by rw [tx_size]; omega), tx_size]
    show Result.ok (Value.string ((tx l).extract a l.length)) w = _
    unfold tx
    rw [ByteArray.extract_mk, List.take_of_length_le (by rw [List.length_drop]; omega)]
  · rfl
/-- What stands behind the first byte. -/
def rest1 (l : List UInt8) : List UInt8 := l.drop 1
@[go_sem ↓] theorem seg_from1 (l : List UInt8) (k : IntKind) (w : World) : (Instr.slice 9 (.string (tx l)) (some (.int k 1)) none none).run Tryz.prog w = selLe 1 l.length (.ok (.string (tx (rest1 l))) w) ((sgX 9 (.string (tx l)) (some (.int k 1)) none none).run Tryz.prog w) := seg_from l 1 k w
theorem seg_end (l : List UInt8) (a : Nat) : seg l a l.length = l.drop a := by
  unfold seg
  rw [List.take_of_length_le (by rw [List.length_drop]; omega)]
theorem strV_snoc (D : List (List UInt8)) (x : List UInt8) : strV (D ++ [x]) = strV D ++ [.string (tx x)] := by unfold strV; rw [List.map_append]; rfl
theorem digs_at {l : List UInt8} {i n : Nat} {c : UInt8} (h : l[i]? = some c) : digs n (l.drop i) = if c.toNat < 48 ∨ 57 < c.toNat then none else digs (10 * n + (c.toNat - 48)) (l.drop (i + 1)) := by
  obtain ⟨hi, he⟩ := List.getElem?_eq_some_iff.1 h
  rw [List.drop_eq_getElem_cons hi, he, digs]
def numV (l : List UInt8) : Value := match numB l with | some n => .tuple #[.int .i64 (n : Int), .bool true] | none => .tuple #[.int .i64 0, .bool false]
theorem numV_none {l : List UInt8} (h : numB l = none) : numV l = .tuple #[.int .i64 0, .bool false] := by unfold numV; rw [h]
theorem numV_some {l : List UInt8} {n : Nat} (h : numB l = some n) : numV l = .tuple #[.int .i64 (n : Int), .bool true] := by unfold numV; rw [h]
theorem strV_at {W : List (List UInt8)} {k : Nat} {x : List UInt8} (h : W[k]? = some x) : (strV W).toArray[k]? = some (.string (tx x)) := by
  unfold strV
  rw [List.getElem?_toArray, List.getElem?_map, h]; rfl
theorem own_strs {w : World} {base n : Nat} {e : TypeId} {v : Value} {W : List (List UInt8)} (h : w.ownsRow base e 1 v n (strV W)) (h0 : 0 < n) : ∃ g cap, v = .slice (some ⟨g, 0, none⟩) n cap ∧ base ≤ g ∧ g < w.heap.size ∧ ∀ j x, j < n → W[j]? = some x → (rowOf w g)[j]? = some (.string (tx x)) := by
  obtain ⟨hl, ⟨rfl, rfl⟩ | ⟨g, cap, cur, rfl, hb, hg, h1, h2, h3, ht⟩⟩ := h
  · omega
  · have hrow : rowOf w g = cur := by simp [rowOf, hg, objRow]
    refine ⟨g, cap, rfl, hb, (Array.getElem?_eq_some_iff.1 hg).1, fun j x hj hx => ?_⟩
    have e := strV_at hx
    rw [List.getElem?_toArray, ← ht, List.getElem?_take, if_pos (by omega)] at e
    rw [hrow, ← Array.getElem?_toList]; exact e
theorem numV_is (l : List UInt8) : ∃ (a : Int) (b : Bool), numV l = .tuple #[.int .i64 a, .bool b] ∧ (b = true → ∃ n : Nat, a = n ∧ numB l = some n) ∧ (b = false → numB l = none) := by
  cases h : numB l with
  | none => exact ⟨0, false, numV_none h, (fun e => by cases e), fun _ => rfl⟩
  | some n => exact ⟨n, true, numV_some h, fun _ => ⟨n, rfl, rfl⟩, (fun e => by cases e)⟩
end Go.Proofs.YtejnejplofddnaaGreatDoor
/- What the program's readers lean on: Cut, Split, ParseInt in a world where the laid variables hold. -/
namespace Go.Proofs.YtejnejplofddnaaGreatDoor
open Go.RowKit Go.Sort
set_option linter.unusedVariables false
set_option linter.unusedSimpArgs false
set_option maxRecDepth 100000
theorem var_below {P : Program} {n : String} {cs : Array Value} {w w' : World} (h : w.var? P n = some cs) (hb : Below w.heap.size w w') : w'.var? P n = some cs := by
  unfold World.var? at h ⊢
  cases hg : P.globalNamed n with
  | none => rw [hg] at h; cases h
  | some g =>
    rw [hg] at h
    simp only [Option.bind_some] at h ⊢
    have hlt : g < w.heap.size := by
      rcases Nat.lt_or_ge g w.heap.size with h' | h'
      · exact h'
      · rw [Array.getElem?_eq_none h'] at h; cases h
    rw [hb.block g hlt]
    exact h
/-- What a reader leans on. -/
structure RdW (w : World) : Prop where
  max : ∃ m, w.cell? ⟨0, 0, none⟩ = some (.int .i64 m)
  syn : ∃ tp p, w.var? Tryz.prog "strconv.ErrSyntax" = some #[.iface tp p]
  ran : ∃ tp p, w.var? Tryz.prog "strconv.ErrRange" = some #[.iface tp p]
theorem RdW.below {w w' : World} (h : RdW w) (hb : Below w.heap.size w w') : RdW w' := by
  obtain ⟨⟨m, hm⟩, ⟨t1, p1, h1⟩, ⟨t2, p2, h2⟩⟩ := h
  refine ⟨⟨m, ?_⟩, ⟨t1, p1, var_below h1 hb⟩, ⟨t2, p2, var_below h2 hb⟩⟩
  unfold World.cell? at hm ⊢
  have hlt : 0 < w.heap.size := by
    rcases Nat.lt_or_ge 0 w.heap.size with h' | h'
    · exact h'
    · simp [Array.getElem?_eq_none h'] at hm
  rw [hb.block _ hlt]
  exact hm
theorem row_err (u : TypeId) (h : Tryz.prog.typeName? 3 u = some "*errors.errorString") : u = 233 :=
  typeName_ptr_named (nm := "errors.errorString") (by rw [show "*" ++ "errors.errorString" = "*errors.errorString" by decide]; kernel_rfl) (by kernel_rfl) (by decide) u (by rw [show "*" ++ "errors.errorString" = "*errors.errorString" by decide]; exact h)
theorem RdW.of {W : World} (hSh : W.ShapedOpen Tryz.prog) {r1 r2 : List (String × DataW Unit)} {x1 x2 : List UInt8}
    (h1 : laidMet Tryz.prog (("strconv.ErrSyntax", .iface "*errors.errorString" (.ptr (.agg [.lit (.string x1)]))) :: r1) W) (h2 : laidMet Tryz.prog (("strconv.ErrRange", .iface "*errors.errorString" (.ptr (.agg [.lit (.string x2)]))) :: r2) W) : RdW W := by
  refine ⟨?_, ?_, ?_⟩
  · exact cell_of_shapedOpen_int (P := Tryz.prog) (g := 0) (t := 3) (zero := #[.int .i64 0]) hSh (of_decide_eq_true (by kernel_rfl)) (by kernel_rfl) rfl (by kernel_rfl) (by kernel_rfl) Tryz.underlying3
  · obtain ⟨a0, sa, hva, _, _, _⟩ := laid_sentinel h1 (g := 1) (by kernel_rfl) (by kernel_rfl) Tryz.underlying107 row_err Tryz.underlying233 Tryz.underlying235 rfl rfl Tryz.underlying9 (by kernel_rfl) (by kernel_rfl)
    exact ⟨_, _, hva⟩
  · obtain ⟨a0, sa, hva, _, _, _⟩ := laid_sentinel h2 (g := 2) (by kernel_rfl) (by kernel_rfl) Tryz.underlying107 row_err Tryz.underlying233 Tryz.underlying235 rfl rfl Tryz.underlying9 (by kernel_rfl) (by kernel_rfl)
    exact ⟨_, _, hva⟩
theorem below_drewN (w : World) (n : Nat) : Below w.heap.size w (w.drewN n) := by repeat' (first | with_reducible exact Below.refl _ _ | with_reducible assumption | with_reducible refine Below.drew ?_ | with_reducible refine Below.drewN ?_ _ | with_reducible refine Below.alloc ?_ ?_ _ | with_reducible refine Below.setCell ?_ ?_ _ | with_reducible refine Below.setRow ?_ ?_ _ | with_reducible refine below_step (by assumption) ?_ ?_ | (show (_ : Nat) ≤ _; first | omega | (simp <;> omega)))
theorem below_bytes (w : World) (e : TypeId) (s : ByteArray) : Below w.heap.size w (Lib.bytesWorld w e s) :=
  ⟨rfl, rfl, rfl, by rw [Lib.bytesWorld_size]; omega, fun b hb => Lib.bytesWorld_at_old w e s b hb⟩
theorem cut_any (b : UInt8) (l : List UInt8) (hl : l.length ≤ 1048576) (w : World) (h : RdW w) :
    Calls Tryz.prog 65 #[.string (tx l), .string (tx [b])] w fun e w' => ∃ ok : Bool, e = .returned (.tuple #[.string (tx (cut1 b l)), .string (tx (cut2 b l)), .bool ok]) ∧ Below w.heap.size w w' := by
  obtain ⟨m, hm⟩ := h.max
  refine (Tryz.strings_Cut (tx l) (tx [b]) m w (by rw [tx_size]; omega) hm).mono fun e w' hq => ?_
  obtain ⟨he, n, rfl⟩ := hq
  exact ⟨_, he, below_drewN w n⟩
theorem parse8_any (l : List UInt8) (hl : l.length ≤ 1048576) (w : World) (h : RdW w) :
    Calls Tryz.prog 66 #[.string (tx l), .int .i64 10, .int .i64 8] w fun e w' => ∃ er, e = .returned (.tuple #[.int .i64 (pi8 l), er]) ∧ Below w.heap.size w w' := by
  have hsz : (tx l).size ≤ 1048576 := by rw [tx_size]; exact hl
  cases hp : Lib.parseIntB 8 l with
  | ok v =>
    have e1 : pi8 l = v := by unfold pi8; rw [hp]
    rw [e1]
    refine (Tryz.strconv_ParseInt_10_at8_ok (tx l) (by omega) v hp w).mono fun e w' hq => ?_
    obtain ⟨he, rfl | ⟨t, rfl⟩⟩ := hq
    · exact ⟨_, he, by repeat' (first | with_reducible exact Below.refl _ _ | with_reducible assumption | with_reducible refine Below.drew ?_ | with_reducible refine Below.drewN ?_ _ | with_reducible refine Below.alloc ?_ ?_ _ | with_reducible refine Below.setCell ?_ ?_ _ | with_reducible refine Below.setRow ?_ ?_ _ | with_reducible refine below_step (by assumption) ?_ ?_ | (show (_ : Nat) ≤ _; first | omega | (simp <;> omega)))⟩
    · exact ⟨_, he, below_bytes _ _ _⟩
  | «syntax» =>
    have e1 : pi8 l = 0 := by unfold pi8; rw [hp]
    obtain ⟨tp, p, hv⟩ := h.syn
    rw [e1]
    refine (Tryz.strconv_ParseInt_10_at8_syntax_var (tx l) (by omega) hp tp p w hv).mono fun e w' hq => ?_
    obtain ⟨N, he, _, _, hb⟩ := hq
    exact ⟨_, he, hb⟩
  | range =>
    have e1 : pi8 l = Lib.intSat 8 l := by unfold pi8; rw [hp]
    obtain ⟨tp, p, hv⟩ := h.ran
    rw [e1]
    refine (Tryz.strconv_ParseInt_10_at8_range_var (tx l) (by omega) hp tp p w hv).mono fun e w' hq => ?_
    obtain ⟨N, he, _, _, hb⟩ := hq
    exact ⟨_, he, hb⟩
theorem split_any (b : UInt8) (l : List UInt8) (hl : l.length ≤ 1048576) (w : World) (h : RdW w) :
    Calls Tryz.prog 63 #[.string (tx l), .string (tx [b])] w fun e w' => e = .returned (.slice (some ⟨w.heap.size, 0, none⟩) (sp b l).length (sp b l).length) ∧ w' = w.alloc (.cells (strV (sp b l)).toArray 9) := by
  obtain ⟨m, hm⟩ := h.max
  refine (Tryz.strings_Split (tx l) (tx [b]) m w (by rw [tx_size]; omega) hm (by rw [tx_size]; exact Nat.le_refl 1)).mono fun e w' hq => ?_
  obtain ⟨he, rfl⟩ := hq
  rw [count_is] at he
  refine ⟨he, ?_⟩
  rw [split_is, List.map_map]; rfl
end Go.Proofs.YtejnejplofddnaaGreatDoor
/- Folds read from a text: the program. -/
namespace Go.Proofs.YtejnejplofddnaaGreatDoor
open Go.RowKit Go.Sort
set_option linter.unusedVariables false
set_option linter.unusedSimpArgs false
set_option maxRecDepth 100000
theorem owns_emptyF (w : World) (e : TypeId) : (w.alloc (.cells #[] e)).ownsRow w.heap.size e 3 (.slice (some ⟨w.heap.size, 0, none⟩) 0 0) 0 [] :=
  ⟨rfl, .inr ⟨w.heap.size, 0, #[], rfl, Nat.le_refl _, by unfold World.alloc; exact Array.getElem?_push_size, Nat.le_refl _, by unfold maxLen; omega, rfl, rfl⟩⟩
def fdsL (L : List Fd) : List Value := L.flatMap fun x => [.int .i8 x.a, .bool x.d, .int .i8 x.p]
theorem fdsL_snoc (L : List Fd) (x : Fd) : fdsL (L ++ [x]) = fdsL L ++ [.int .i8 x.a, .bool x.d, .int .i8 x.p] := by unfold fdsL; rw [List.flatMap_append]; rfl
theorem fdsL_len : ∀ L, (fdsL L).length = L.length * 3
  | [] => rfl
  | x :: r => by
    show ([Value.int .i8 x.a, .bool x.d, .int .i8 x.p] ++ fdsL r).length = _
    rw [List.length_append, fdsL_len r]; simp; omega
theorem fdsL_at : ∀ (L : List Fd) (k : Nat), k < L.length → ∀ j, j < 3 → (fdsL L)[k * 3 + j]? = some (fdV (fnOf L) k j)
  | x :: r, 0, _, j, hj => by
    match j, hj with
    | 0, _ => rfl
    | 1, _ => rfl
    | 2, _ => rfl
  | x :: r, k + 1, hk, j, hj => by
    have h := fdsL_at r k (by simp at hk; omega) j hj
    have e : fdsL (x :: r) = [.int .i8 x.a, .bool x.d, .int .i8 x.p] ++ fdsL r := rfl
    rw [e, List.getElem?_append_right (by simp; omega), show (k + 1) * 3 + j - [Value.int .i8 x.a, .bool x.d, .int .i8 x.p].length = k * 3 + j by simp; omega, h]
    rfl
theorem owns_folds {w : World} {base : Nat} {e : TypeId} {v : Value} {L : List Fd} (h : w.ownsRow base e 3 v L.length (fdsL L)) : OwnV 3 w base v L.length (fdV (fnOf L)) := OwnV.of h (fdsL_at L)
theorem ifs_snoc : ∀ (l : List (List UInt8)) (x : List UInt8), ifs (l ++ [x]) = ifs l ++ (if x = [] then [] else [ifw x])
  | [], x => by show ifs [x] = _; unfold ifs; split <;> rfl
  | y :: r, x => by
    rw [List.cons_append]
    unfold ifs
    rw [ifs_snoc r x]
    split <;> rfl
theorem ifs_take {W : List (List UInt8)} {k : Nat} {x : List UInt8} (h : W[k]? = some x) : ifs (W.take (k + 1)) = ifs (W.take k) ++ (if x = [] then [] else [ifw x]) := by
  rw [List.take_add_one, h]; exact ifs_snoc _ _
theorem ifs_tail : ∀ (b : UInt8) (r : List (List UInt8)), (ifs r).length ≤ (Lib.joinTail [b] r).length
  | _, [] => Nat.zero_le _
  | b, x :: r => by
    have := ifs_tail b r
    have e : Lib.joinTail [b] (x :: r) = ([b] ++ x) ++ Lib.joinTail [b] r := by simp [Lib.joinTail]
    rw [e, List.length_append, List.length_append]
    unfold ifs
    split <;> simp <;> omega
theorem ifs_le (b : UInt8) (l : List UInt8) : (ifs (sp b l)).length ≤ l.length := by
  have hj := join_sp b l
  cases hs : sp b l with
  | nil => exact Nat.zero_le _
  | cons x r =>
    rw [hs, Lib.join_cons] at hj
    rw [← hj, List.length_append]
    have := ifs_tail b r
    unfold ifs
    split
    · omega
    · rename_i hx
      have := List.length_pos_iff.2 hx
      simp; omega
theorem wrap8_bd (n : Int) : -128 ≤ IntKind.i8.wrap n ∧ IntKind.i8.wrap n ≤ 127 := by simp only [IntKind.wrap, IntKind.bits, IntKind.signed]; simp; omega
theorem ifs_in : ∀ {l : List (List UInt8)}, ∀ x ∈ ifs l, FdIn x
  | [], x, h => by cases h
  | y :: r, x, h => by
    unfold ifs at h
    split at h
    · exact ifs_in x h
    · rcases List.mem_cons.1 h with rfl | h
      · exact ⟨wrap8_bd _, wrap8_bd _⟩
      · exact ifs_in x h
theorem fnOf_in {L : List Fd} (h : ∀ x ∈ L, FdIn x) : ∀ k, k < L.length → FdIn (fnOf L k) := fun k hk => by rw [fnOf_at hk]; exact h _ (List.getElem_mem hk)
/-- What both readers give. -/
def rdL (l : List UInt8) : List Fd := (sFolds l).getD []
def rdC (l : List UInt8) : Int := if (sFolds l).isSome then 0 else 5
theorem rd_some {l : List UInt8} {L : List Fd} (h : sFolds l = some L) : rdL l = L ∧ rdC l = 0 := by unfold rdL rdC; rw [h]; exact ⟨rfl, rfl⟩
theorem rd_none {l : List UInt8} (h : sFolds l = none) : rdL l = [] ∧ rdC l = 5 := by unfold rdL rdC; rw [h]; exact ⟨rfl, rfl⟩
end Go.Proofs.YtejnejplofddnaaGreatDoor
/- Folds read from a text: the reference. -/
namespace Go.Proofs.YtejnejplofddnaaGreatDoor
open Go.RowKit Go.Sort
set_option linter.unusedVariables false
set_option linter.unusedSimpArgs false
set_option maxRecDepth 100000
theorem sfw_len {x : List UInt8} (h : (sp 47 x).length ≠ 2) : sfw x = none := by
  unfold sfw
  split
  · rename_i e; rw [e] at h; exact absurd rfl h
  · rfl
theorem sfw_short {x u v : List UInt8} (h : sp 47 x = [u, v]) (hu : u.length < 2) : sfw x = none := by
  unfold sfw
  rw [h]
  match u, hu with
  | [], _ => rfl
  | [_], _ => rfl
theorem sfw_kind {x u v : List UInt8} {c : UInt8} (h : sp 47 x = [u, v]) (hc : u[0]? = some c) (h1 : c ≠ 118) (h2 : c ≠ 104) : sfw x = none := by
  unfold sfw
  rw [h]
  match u, hc with
  | [_], _ => rfl
  | k :: d :: r, hc =>
    obtain rfl : k = c := Option.some.inj hc
    show (if k = 118 ∨ k = 104 then _ else _) = _
    rw [if_neg (fun h => h.elim h1 h2)]
theorem sfw_num {x u v : List UInt8} {c : UInt8} (h : sp 47 x = [u, v]) (hu : 2 ≤ u.length) (hc : u[0]? = some c) (h1 : c = 118 ∨ c = 104) : sfw x = sfk c (rest1 u) v := by
  unfold sfw
  rw [h]
  match u, hu, hc with
  | k :: d :: r, _, hc =>
    obtain rfl : k = c := Option.some.inj hc
    show (if k = 118 ∨ k = 104 then _ else _) = _
    rw [if_pos h1]; rfl
theorem sfs_app : ∀ (a b : List (List UInt8)), sfs (a ++ b) = match sfs a with | none => none | some la => match sfs b with | none => none | some lb => some (la ++ lb)
  | [], b => by show sfs b = match sfs b with | none => none | some lb => some ([] ++ lb); cases sfs b <;> rfl
  | w :: r, b => by
    rw [List.cons_append, sfs, sfs, sfs_app r b]
    cases sfw w with
    | none => rfl
    | some x => cases sfs r with
      | none => rfl
      | some l => cases sfs b <;> rfl
theorem sfs_next {W : List (List UInt8)} {k : Nat} {x : List UInt8} {L : List Fd} {y : Fd} (h : sfs (W.take k) = some L) (hx : W[k]? = some x) (hy : sfw x = some y) : sfs (W.take (k + 1)) = some (L ++ [y]) := by
  rw [List.take_add_one, hx, sfs_app, h]
  show (match sfs [x] with | none => none | some lb => some (L ++ lb)) = _
  simp only [sfs, hy]
theorem sfs_stop {W : List (List UInt8)} {k : Nat} {x : List UInt8} {L : List Fd} (h : sfs (W.take k) = some L) (hx : W[k]? = some x) (hy : sfw x = none) : sfs W = none := by
  obtain ⟨hk, he⟩ := List.getElem?_eq_some_iff.1 hx
  have e : W = W.take k ++ x :: W.drop (k + 1) := by rw [← he, List.getElem_cons_drop, List.take_append_drop]
  rw [e, sfs_app, h]
  show (match sfs (x :: W.drop (k + 1)) with | none => none | some lb => some (L ++ lb)) = _
  simp only [sfs, hy]
theorem sfs_len : ∀ {W : List (List UInt8)} {L : List Fd}, sfs W = some L → L.length = W.length := fun h => by
  have := congrArg List.length (sfs_some h).1
  rw [List.length_map] at this; exact this.symm
theorem own_noneF (w : World) (e : TypeId) {b : Nat} (hb : b ≤ w.heap.size) (V : Nat → Nat → Value) : OwnV 3 (w.alloc (.cells #[] e)) b (.slice (some ⟨w.heap.size, 0, none⟩) 0 0) 0 V := (OwnV.of (owns_emptyF w e) (fun k hk => absurd hk (Nat.not_lt_zero _))).down hb
theorem sfk_none1 (c : UInt8) (v : List UInt8) {l : List UInt8} (h : numB l = none) : sfk c l v = none := by unfold sfk; rw [h]
theorem sfk_none2 (c : UInt8) (l : List UInt8) {v : List UInt8} (h : numB v = none) : sfk c l v = none := by unfold sfk; rw [h]; cases numB l <;> rfl
theorem sfk_yes (c : UInt8) {l v : List UInt8} {a p : Nat} (h1 : numB l = some a) (h2 : numB v = some p) : sfk c l v = if a ≤ 8 ∧ p ≤ 8 ∧ plainB ⟨(a : Int), c == 104, (p : Int)⟩ = true then some ⟨(a : Int), c == 104, (p : Int)⟩ else none := by unfold sfk; rw [h1, h2]
end Go.Proofs.YtejnejplofddnaaGreatDoor
/- A mark read from a text: the program. -/
namespace Go.Proofs.YtejnejplofddnaaGreatDoor
open Go.RowKit Go.Sort
set_option linter.unusedVariables false
set_option linter.unusedSimpArgs false
set_option maxRecDepth 100000
def cpL (L : List (Int × Int)) : List Value := L.flatMap fun p => [.int .i8 p.1, .int .i8 p.2]
theorem cpL_snoc (L : List (Int × Int)) (p : Int × Int) : cpL (L ++ [p]) = cpL L ++ [.int .i8 p.1, .int .i8 p.2] := by unfold cpL; rw [List.flatMap_append]; rfl
theorem cpL_at : ∀ (L : List (Int × Int)) (j : Nat), j < L.length * 2 → (cpL L)[j]? = some (.int .i8 (gOf L j))
  | p :: r, 0, _ => rfl
  | p :: r, 1, _ => rfl
  | p :: r, j + 2, hj => by
    have h := cpL_at r j (by simp at hj; omega)
    have e : cpL (p :: r) = [.int .i8 p.1, .int .i8 p.2] ++ cpL r := rfl
    rw [e, List.getElem?_append_right (by simp), show j + 2 - [Value.int .i8 p.1, .int .i8 p.2].length = j from by simp, h]
    unfold gOf
    rw [show (j + 2) / 2 = j / 2 + 1 from by omega, show (j + 2) % 2 = j % 2 from by omega]
    rfl
theorem owns_cellsP {w : World} {base : Nat} {e : TypeId} {v : Value} {L : List (Int × Int)} (h : w.ownsRow base e 2 v L.length (cpL L)) : OwnK .i8 2 w base v L.length (gOf L) := OwnK.of h (cpL_at L)
theorem owns_other {w w' : World} {base n s : Nat} {e : TypeId} {v : Value} {xs : List Value} (h : w.ownsRow base e s v n xs) (hr : ∀ q, v.ownBlock = some q → w'.heap[q]? = w.heap[q]?) : w'.ownsRow base e s v n xs := by
  obtain ⟨hl, h0 | ⟨g, cap, cur, rfl, h1, h2, h3⟩⟩ := h
  · exact ⟨hl, .inl h0⟩
  · exact ⟨hl, .inr ⟨g, cap, cur, rfl, h1, (hr g rfl).trans h2, h3⟩⟩
theorem grown_fr {w w' : World} {row : Option Nat} (g : w.grownBy w' row) {k : Nat} (hk : k < w.heap.size) (hne : some k ≠ row) : frOf w' k = frOf w k := by unfold frOf; rw [g.block k hk hne]
/-- What both readers give. -/
def rmC (l : List UInt8) : Int := match sMark l with | some (c, _) => c | none => 0
def rmL (l : List UInt8) : List (Int × Int) := match sMark l with | some (_, L) => L | none => []
def rmE (l : List UInt8) : Int := match sMark l with | some _ => 0 | none => 5
theorem rm_some {l : List UInt8} {c : Int} {L : List (Int × Int)} (h : sMark l = some (c, L)) : rmC l = c ∧ rmL l = L ∧ rmE l = 0 := by unfold rmC rmL rmE; rw [h]; exact ⟨rfl, rfl, rfl⟩
theorem rm_none {l : List UInt8} (h : sMark l = none) : rmC l = 0 ∧ rmL l = [] ∧ rmE l = 5 := by unfold rmC rmL rmE; rw [h]; exact ⟨rfl, rfl, rfl⟩
theorem index_range (a b : List UInt8) : -1 ≤ Lib.index a b ∧ Lib.index a b ≤ a.length := ⟨Lib.index_ge a b, Lib.index_le a b⟩
theorem icw_in (x : List UInt8) : (-128 ≤ (icw x).1 ∧ (icw x).1 ≤ 127) ∧ -128 ≤ (icw x).2 ∧ (icw x).2 ≤ 127 := ⟨wrap8_bd _, wrap8_bd _⟩
theorem gOf_in {L : List (Int × Int)} (h : ∀ p ∈ L, (-128 ≤ p.1 ∧ p.1 ≤ 127) ∧ -128 ≤ p.2 ∧ p.2 ≤ 127) : ∀ j, j < L.length * 2 → -128 ≤ gOf L j ∧ gOf L j ≤ 127 := fun j hj => by
  have hk : j / 2 < L.length := by omega
  unfold gOf
  rw [List.getD_eq_getElem?_getD, List.getElem?_eq_getElem hk]
  have := h _ (List.getElem_mem hk)
  split
  · exact this.1
  · exact this.2
theorem own_nil {w : World} {b : Nat} {f : Nat → Int} : OwnK .i8 2 w b (.slice none 0 0) 0 f := .inl ⟨rfl, rfl⟩
theorem index_any (a b : List UInt8) (ha : a.length ≤ 1048576) (w : World) (h : RdW w) : Calls Tryz.prog 64 #[.string (tx a), .string (tx b)] w fun e w' => e = .returned (.int .i64 (Lib.index a b)) ∧ w' = w := by
  obtain ⟨m, hm⟩ := h.max
  exact Tryz.strings_Index (tx a) (tx b) m w (by rw [tx_size]; omega) hm
set_option maxHeartbeats 8000000 in
theorem iReadMark_any (l : List UInt8) (hl : l.length ≤ 1048576) (w : World) (h : RdW w) :
    Calls Tryz.prog 19 #[.string (tx l)] w fun e w' => ∃ v, e = .returned (.tuple #[.agg #[.int .i8 (rmC l), v], .int .i64 (rmE l)]) ∧ OwnK .i8 2 w' w.heap.size v (rmL l).length (gOf (rmL l)) ∧ Below w.heap.size w w' := by
  obtain ⟨i0, z0, hi0, hz0, hs0, hb0, hc0⟩ := spot_info
  have HI := Lib.hid (And.intro hi0 (And.intro hz0 (And.intro hs0 (And.intro hb0 hc0))))
  clear hi0 hz0 hs0 hb0 hc0
  have HR := Lib.hid h
  clear h
  have HS := Lib.hid (fun w h => split_any 32 l hl w h)
  have hWl := sp_len 32 l
  have HM := Lib.hid (fun x (h : x ∈ sp 32 l) => seg_le h)
  have HLAW := Lib.hid (mark_read l)
  obtain ⟨c, r, hW⟩ : ∃ c r, sp 32 l = c :: r := by
    cases h : sp 32 l with
    | nil => exact absurd h (sp_ne 32 l)
    | cons c r => exact ⟨c, r, rfl⟩
  have HIM := Lib.hid (show iMark l = (colI c, r.map icw) by unfold iMark; rw [hW])
  rw [hW] at HS hWl HM
  have hcl : c.length ≤ 1048576 := Nat.le_trans (HM.out c (by simp)) hl
  have HIX := Lib.hid (fun w h => index_any [97, 98, 99] c (by decide) w h)
  have hC : IntKind.i8.wrap (Lib.index [97, 98, 99] c) = colI c := rfl
  have hCb := wrap8_bd (Lib.index [97, 98, 99] c)
  rw [hC] at hCb
  generalize Lib.index [97, 98, 99] c = ix at *
  generalize colI c = C at *
  have hr0 : (strV (c :: r)).toArray[0]? = some (.string (tx c)) := strV_at rfl
  have HRX := Lib.hid (fun k x (h : r[k]? = some x) => (strV_at (W := c :: r) (k := k + 1) h))
  have hnl : (c :: r).length = r.length + 1 := rfl
  rw [hnl] at HS hWl
  generalize (strV (c :: r)).toArray = R at *
  clear hW
  by_cases hrn : r = []
  · subst hrn
    go_enter Tryz.func19, Tryz.ntmps19
    go_wp2_with (first | (go_at_call 63; refine (HS.out _ (HR.out.below (by repeat' (first | with_reducible exact Below.refl _ _ | with_reducible assumption | with_reducible refine Below.drew ?_ | with_reducible refine Below.drewN ?_ _ | with_reducible refine Below.alloc ?_ ?_ _ | with_reducible refine Below.setCell ?_ ?_ _ | with_reducible refine Below.setRow ?_ ?_ _ | with_reducible refine below_step (by assumption) ?_ ?_ | (show (_ : Nat) ≤ _; first | omega | (simp <;> omega)))))).mono ?_; rintro e w1 ⟨rfl, rfl⟩) | (go_at_call 64; refine (HIX.out _ (HR.out.below (by repeat' (first | with_reducible exact Below.refl _ _ | with_reducible assumption | with_reducible refine Below.drew ?_ | with_reducible refine Below.drewN ?_ _ | with_reducible refine Below.alloc ?_ ?_ _ | with_reducible refine Below.setCell ?_ ?_ _ | with_reducible refine Below.setRow ?_ ?_ _ | with_reducible refine below_step (by assumption) ?_ ?_ | (show (_ : Nat) ≤ _; first | omega | (simp <;> omega)))))).mono ?_; rintro e w2 ⟨rfl, rfl⟩))
    go_loopw [26] (fun i wr => i = .int .i64 0 ∧ Below w.heap.size w wr ∧ w.heap.size + 3 ≤ wr.heap.size ∧ rowOf wr w.heap.size = #[.int .i8 0, .slice none 0 0] ∧ frOf wr w.heap.size = (0, 0) ∧ rowOf wr (w.heap.size + 2) = #[.int .i8 C, .slice none 0 0]) (fun i wr => 0)
    case atStart => exact ⟨rfl, by repeat' (first | with_reducible exact Below.refl _ _ | with_reducible assumption | with_reducible refine Below.drew ?_ | with_reducible refine Below.drewN ?_ _ | with_reducible refine Below.alloc ?_ ?_ _ | with_reducible refine Below.setCell ?_ ?_ _ | with_reducible refine Below.setRow ?_ ?_ _ | with_reducible refine below_step (by assumption) ?_ ?_ | (show (_ : Nat) ≤ _; first | omega | (simp <;> omega))), by simp, by (go_simp <;> (intros; omega)), by (go_simp <;> (intros; omega)), by (go_simp <;> (intros; omega))⟩
    case round =>
      obtain ⟨rfl, hb, hsz, hrB, hfB, hrM⟩ := hrel
      have hsz0 := hb.size
      have HV := Lib.hid (own_nil (w := wr) (b := w.heap.size + 3) (f := gOf []))
      have HIM := Lib.hid (show iMark l = (C, []) from HIM.out)
      have hcb : -128 ≤ C ∧ C ≤ 127 := hCb
      have HT0 := fun w h => iMarkText_any C hcb (.slice none 0 0) 0 (gOf []) (by omega) (by first | exact gOf_in (fun p hp => by obtain ⟨x, -, rfl⟩ := List.mem_map.1 hp; exact icw_in x) | (have := gOf_in (L := r.map icw) (fun p hp => by obtain ⟨x, -, rfl⟩ := List.mem_map.1 hp; exact icw_in x); rw [List.length_map] at this; exact this) | (intro j hj; omega)) w h
      by_cases hl0 : l = []
      · have HRD := Lib.hid (rm_none (show sMark l = none by rw [hl0]; rfl))
        subst hl0
        go_wp2
        refine bodyPost_ret (v := .tuple #[.agg #[.int .i8 0, .slice none 0 0], .int .i64 5]) (res_ct rfl rfl (by (go_simp <;> (intros; omega))) rfl) rfl ⟨_, by rw [HRD.out.1, HRD.out.2.2], by rw [HRD.out.2.1]; exact own_nil, by repeat' (first | with_reducible exact Below.refl _ _ | with_reducible assumption | with_reducible refine Below.drew ?_ | with_reducible refine Below.drewN ?_ _ | with_reducible refine Below.alloc ?_ ?_ _ | with_reducible refine Below.setCell ?_ ?_ _ | with_reducible refine Below.setRow ?_ ?_ _ | with_reducible refine below_step (by assumption) ?_ ?_ | (show (_ : Nat) ≤ _; first | omega | (simp <;> omega)))⟩
      have hlb : (l == []) = false := by cases l <;> first | (exact absurd rfl hl0) | rfl
      rcases HLAW.out with ⟨col, L', h1, h2, -, h4⟩ | ⟨h1, h2⟩
      · rw [HIM.out] at h2
        simp only [Prod.mk.injEq] at h2
        obtain ⟨rfl, hL⟩ := h2
        subst hL
        have HRD := Lib.hid (rm_some h1)
        rw [List.length_nil] at h4
        rw [h4] at HT0
        have HT := Lib.hid HT0
        clear HT0 h1 h4
        go_wp2_with (go_at_call 20; refine (HT.out _ (HV.out.below (by repeat' (first | with_reducible exact Below.refl _ _ | with_reducible assumption | with_reducible refine Below.drew ?_ | with_reducible refine Below.drewN ?_ _ | with_reducible refine Below.alloc ?_ ?_ _ | with_reducible refine Below.setCell ?_ ?_ _ | with_reducible refine Below.setRow ?_ ?_ _ | with_reducible refine below_step (by assumption) ?_ ?_ | (show (_ : Nat) ≤ _; first | omega | (simp <;> omega)))) (Nat.le_refl _)).slA).mono ?_; rintro e wf ⟨rfl, hbf⟩; have r_hbf := keep_rowA hbf; have f_hbf := keep_frA hbf; have s_hbf := hbf.size; (try simp only [World.size_alloc, World.size_setCell, setRow_size, World.size_drew, size_drewNm] at r_hbf f_hbf s_hbf))
        refine bodyPost_ret (v := .tuple #[.agg #[.int .i8 C, .slice none 0 0], .int .i64 0]) (res_ct rfl rfl (by (go_simp <;> (intros; omega))) rfl) rfl ⟨_, by rw [HRD.out.1, HRD.out.2.2], ?_, by repeat' (first | with_reducible exact Below.refl _ _ | with_reducible assumption | with_reducible refine Below.drew ?_ | with_reducible refine Below.drewN ?_ _ | with_reducible refine Below.alloc ?_ ?_ _ | with_reducible refine Below.setCell ?_ ?_ _ | with_reducible refine Below.setRow ?_ ?_ _ | with_reducible refine below_step (by assumption) ?_ ?_ | (show (_ : Nat) ≤ _; first | omega | (simp <;> omega)))⟩
        rw [HRD.out.2.1]
        refine ((HV.out.below (w' := wf) (by repeat' (first | with_reducible exact Below.refl _ _ | with_reducible assumption | with_reducible refine Below.drew ?_ | with_reducible refine Below.drewN ?_ _ | with_reducible refine Below.alloc ?_ ?_ _ | with_reducible refine Below.setCell ?_ ?_ _ | with_reducible refine Below.setRow ?_ ?_ _ | with_reducible refine below_step (by assumption) ?_ ?_ | (show (_ : Nat) ≤ _; first | omega | (simp <;> omega)))) (Nat.le_refl _)).other ?_ (fun g h1 h2 => ?_)).down (by omega)
        · skip
          simp only [World.size_alloc, World.size_setCell, setRow_size, World.size_drew, size_drewNm]; omega
        have e1 : g ≠ w.heap.size := by omega
        constructor <;> go_simp
      · have HRD := Lib.hid (rm_none h1)
        rw [HIM.out] at h2
        have hne : markTx C (gOf []) 0 ≠ l := by
          rcases h2 with h2 | h2
          · exact absurd h2 hl0
          · exact h2
        have HT := Lib.hid HT0
        clear HT0 h1 h2
        generalize markTx C (gOf []) 0 = t2 at *
        have hnb : (t2 == l) = false := by rw [beq_eq_false_iff_ne]; exact hne
        go_wp2_with (go_at_call 20; refine (HT.out _ (HV.out.below (by repeat' (first | with_reducible exact Below.refl _ _ | with_reducible assumption | with_reducible refine Below.drew ?_ | with_reducible refine Below.drewN ?_ _ | with_reducible refine Below.alloc ?_ ?_ _ | with_reducible refine Below.setCell ?_ ?_ _ | with_reducible refine Below.setRow ?_ ?_ _ | with_reducible refine below_step (by assumption) ?_ ?_ | (show (_ : Nat) ≤ _; first | omega | (simp <;> omega)))) (Nat.le_refl _)).slA).mono ?_; rintro e wf ⟨rfl, hbf⟩; have r_hbf := keep_rowA hbf; have f_hbf := keep_frA hbf; have s_hbf := hbf.size; (try simp only [World.size_alloc, World.size_setCell, setRow_size, World.size_drew, size_drewNm] at r_hbf f_hbf s_hbf))
        refine bodyPost_ret (v := .tuple #[.agg #[.int .i8 0, .slice none 0 0], .int .i64 5]) (res_ct rfl rfl (by (go_simp <;> (intros; omega))) rfl) rfl ⟨_, by rw [HRD.out.1, HRD.out.2.2], by rw [HRD.out.2.1]; exact own_nil, by repeat' (first | with_reducible exact Below.refl _ _ | with_reducible assumption | with_reducible refine Below.drew ?_ | with_reducible refine Below.drewN ?_ _ | with_reducible refine Below.alloc ?_ ?_ _ | with_reducible refine Below.setCell ?_ ?_ _ | with_reducible refine Below.setRow ?_ ?_ _ | with_reducible refine below_step (by assumption) ?_ ?_ | (show (_ : Nat) ≤ _; first | omega | (simp <;> omega)))⟩
  have hrl : 0 < r.length := List.length_pos_iff.2 hrn
  go_enter Tryz.func19, Tryz.ntmps19
  go_wp2_with (first | (go_at_call 63; refine (HS.out _ (HR.out.below (by repeat' (first | with_reducible exact Below.refl _ _ | with_reducible assumption | with_reducible refine Below.drew ?_ | with_reducible refine Below.drewN ?_ _ | with_reducible refine Below.alloc ?_ ?_ _ | with_reducible refine Below.setCell ?_ ?_ _ | with_reducible refine Below.setRow ?_ ?_ _ | with_reducible refine below_step (by assumption) ?_ ?_ | (show (_ : Nat) ≤ _; first | omega | (simp <;> omega)))))).mono ?_; rintro e w1 ⟨rfl, rfl⟩) | (go_at_call 64; refine (HIX.out _ (HR.out.below (by repeat' (first | with_reducible exact Below.refl _ _ | with_reducible assumption | with_reducible refine Below.drew ?_ | with_reducible refine Below.drewN ?_ _ | with_reducible refine Below.alloc ?_ ?_ _ | with_reducible refine Below.setCell ?_ ?_ _ | with_reducible refine Below.setRow ?_ ?_ _ | with_reducible refine below_step (by assumption) ?_ ?_ | (show (_ : Nat) ≤ _; first | omega | (simp <;> omega)))))).mono ?_; rintro e w2 ⟨rfl, rfl⟩))
  go_loopw [26] (fun i wr => ∃ (k : Nat) (v : Value), k ≤ r.length ∧ i = .int .i64 k ∧ wr.ownsRow (w.heap.size + 3) 59 2 v k (cpL ((r.map icw).take k)) ∧ Below w.heap.size w wr ∧ w.heap.size + 3 ≤ wr.heap.size ∧ rowOf wr w.heap.size = #[.int .i8 0, .slice none 0 0] ∧ frOf wr w.heap.size = (0, 0) ∧ rowOf wr (w.heap.size + 1) = R ∧ rowOf wr (w.heap.size + 2) = #[.int .i8 C, v] ∧ frOf wr (w.heap.size + 2) = (0, 0)) (fun i wr => r.length + 1 - (intOf i).toNat)
  case atStart => exact ⟨0, .slice none 0 0, by omega, rfl, World.ownsRow_nil _ _ _ _, by repeat' (first | with_reducible exact Below.refl _ _ | with_reducible assumption | with_reducible refine Below.drew ?_ | with_reducible refine Below.drewN ?_ _ | with_reducible refine Below.alloc ?_ ?_ _ | with_reducible refine Below.setCell ?_ ?_ _ | with_reducible refine Below.setRow ?_ ?_ _ | with_reducible refine below_step (by assumption) ?_ ?_ | (show (_ : Nat) ≤ _; first | omega | (simp <;> omega))), by simp, by (go_simp <;> (intros; omega)), by (go_simp <;> (intros; omega)), by (go_simp <;> (intros; omega)), by (go_simp <;> (intros; omega)), by (go_simp <;> (intros; omega))⟩
  case round =>
    obtain ⟨k, v, hk, rfl, hown, hb, hsz, hrB, hfB, hrS, hrM, hfM⟩ := hrel
    have hsz0 := hb.size
    obtain ⟨a1, cp1, rfl⟩ := owns_len hown
    have HO := Lib.hid hown
    clear hown
    by_cases hlt : k < r.length
    · obtain ⟨x, hx0⟩ : ∃ x, r[k] = x := ⟨_, rfl⟩
      have hx : r[k]? = some x := by rw [List.getElem?_eq_getElem hlt, hx0]
      have hsv : R[k + 1]? = some (.string (tx x)) := HRX.out k x hx
      have hsv' : R[1 + k]? = some (.string (tx x)) := by rw [Nat.add_comm]; exact hsv
      have hxl : x.length ≤ 1048576 := Nat.le_trans (HM.out x (List.mem_cons_of_mem _ (by rw [← hx0]; exact List.getElem_mem hlt))) hl
      have hlt2 : (k : Int) < (r.length : Int) := by omega
      have HQ := Lib.hid (show cpL ((r.map icw).take (k + 1)) = cpL ((r.map icw).take k) ++ [.int .i8 (IntKind.i8.wrap (pi8 (cut1 44 x))), .int .i8 (IntKind.i8.wrap (pi8 (cut2 44 x)))] by rw [List.take_add_one, List.getElem?_map, hx]; exact cpL_snoc _ _)
      have hc1 := cut1_len 44 x
      have hc2 := cut2_len 44 x
      have HC := Lib.hid (fun w h => cut_any 44 x hxl w h)
      have HP1 := Lib.hid (fun w h => parse8_any (cut1 44 x) (by omega) w h)
      have HP2 := Lib.hid (fun w h => parse8_any (cut2 44 x) (by omega) w h)
      generalize cut1 44 x = y1 at *
      generalize cut2 44 x = y2 at *
      generalize pi8 y1 = p1 at *
      generalize pi8 y2 = p2 at *
      clear hc1 hc2 hx hx0
      go_wp2_with (go_at_call 65; refine (HC.out _ (HR.out.below (by repeat' (first | with_reducible exact Below.refl _ _ | with_reducible assumption | with_reducible refine Below.drew ?_ | with_reducible refine Below.drewN ?_ _ | with_reducible refine Below.alloc ?_ ?_ _ | with_reducible refine Below.setCell ?_ ?_ _ | with_reducible refine Below.setRow ?_ ?_ _ | with_reducible refine below_step (by assumption) ?_ ?_ | (show (_ : Nat) ≤ _; first | omega | (simp <;> omega)))))).mono ?_; rintro e wc ⟨okc, rfl, hbc⟩; have r_hbc := keep_rowA hbc; have f_hbc := keep_frA hbc; have s_hbc := hbc.size; (try simp only [World.size_alloc, World.size_setCell, setRow_size, World.size_drew, size_drewNm] at r_hbc f_hbc s_hbc))
      go_wp2_with (go_at_call 66; with_reducible refine (HP1.out _ (HR.out.below (by repeat' (first | with_reducible exact Below.refl _ _ | with_reducible assumption | with_reducible refine Below.drew ?_ | with_reducible refine Below.drewN ?_ _ | with_reducible refine Below.alloc ?_ ?_ _ | with_reducible refine Below.setCell ?_ ?_ _ | with_reducible refine Below.setRow ?_ ?_ _ | with_reducible refine below_step (by assumption) ?_ ?_ | (show (_ : Nat) ≤ _; first | omega | (simp <;> omega)))))).mono ?_; rintro e wp ⟨er1, rfl, hbp⟩; have r_hbp := keep_rowA hbp; have f_hbp := keep_frA hbp; have s_hbp := hbp.size; (try simp only [World.size_alloc, World.size_setCell, setRow_size, World.size_drew, size_drewNm] at r_hbp f_hbp s_hbp))
      go_wp2_with (first | (go_at_call 66; with_reducible refine (HP2.out _ (HR.out.below (by repeat' (first | with_reducible exact Below.refl _ _ | with_reducible assumption | with_reducible refine Below.drew ?_ | with_reducible refine Below.drewN ?_ _ | with_reducible refine Below.alloc ?_ ?_ _ | with_reducible refine Below.setCell ?_ ?_ _ | with_reducible refine Below.setRow ?_ ?_ _ | with_reducible refine below_step (by assumption) ?_ ?_ | (show (_ : Nat) ≤ _; first | omega | (simp <;> omega)))))).mono ?_; rintro e wq ⟨er2, rfl, hbq⟩; have r_hbq := keep_rowA hbq; have f_hbq := keep_frA hbq; have s_hbq := hbq.size; (try simp only [World.size_alloc, World.size_setCell, setRow_size, World.size_drew, size_drewNm] at r_hbq f_hbq s_hbq)) | (at_builtin; refine wpList_append_own_at _ rfl _ _ 49 rfl (w.heap.size + 3) 59 i0 z0 2 2 Tryz.underlying49 HI.out.1 HI.out.2.1 HI.out.2.2.1 HI.out.2.2.2.1 HI.out.2.2.2.2 (by decide) _ _ _ rfl ((owns_below HO.out (by repeat' (first | with_reducible exact Below.refl _ _ | with_reducible assumption | with_reducible refine Below.drew ?_ | with_reducible refine Below.drewN ?_ _ | with_reducible refine Below.alloc ?_ ?_ _ | with_reducible refine Below.setCell ?_ ?_ _ | with_reducible refine Below.setRow ?_ ?_ _ | with_reducible refine below_step (by assumption) ?_ ?_ | (show (_ : Nat) ≤ _; first | omega | (simp <;> omega))))).alloc _) ⟨wq.heap.size, 0, none⟩ 1 1 [.int .i8 (IntKind.i8.wrap p1), .int .i8 (IntKind.i8.wrap p2)] rfl rfl ?c1 ?c2 ?c3 ?c4 ?c5 ?_))
      case c1 =>
        intro j u hj
        match j, hj with
        | 0, hj => simp at hj; subst hj; simp [Addr.add]
        | 1, hj => simp at hj; subst hj; simp [Addr.add]
      case c2 =>
        intro u hu
        simp at hu
        rcases hu with rfl | rfl <;> rfl
      case c3 => unfold maxLen; omega
      case c4 => omega
      case c5 => first | omega | (simp <;> omega)
      intro v' w2 hown' hgrow _ hat
      have HNE := Lib.hid (owns_base HO.out)
      have hbg : Below w.heap.size w w2 := below_grown (Below.alloc (by repeat' (first | with_reducible exact Below.refl _ _ | with_reducible assumption | with_reducible refine Below.drew ?_ | with_reducible refine Below.drewN ?_ _ | with_reducible refine Below.alloc ?_ ?_ _ | with_reducible refine Below.setCell ?_ ?_ _ | with_reducible refine Below.setRow ?_ ?_ _ | with_reducible refine below_step (by assumption) ?_ ?_ | (show (_ : Nat) ≤ _; first | omega | (simp <;> omega)))) (by omega) _) hgrow (fun q hq => by have := HNE.out q hq; omega) (by first | omega | (simp <;> omega))
      have hs2 : wq.heap.size < w2.heap.size := by first | (have := hgrow.size; omega) | (have := hgrow.size; simp at this; omega)
      have hrB2 : rowOf w2 w.heap.size = #[.int .i8 0, .slice none 0 0] := (grown_row hgrow (by first | omega | (simp <;> omega)) (fun h => by have := HNE.out _ h.symm; omega)).trans (by (go_simp <;> (intros; omega)))
      have hrS2 : rowOf w2 (w.heap.size + 1) = R := (grown_row hgrow (by first | omega | (simp <;> omega)) (fun h => by have := HNE.out _ h.symm; omega)).trans (by (go_simp <;> (intros; omega)))
      have hrM2 : rowOf w2 (w.heap.size + 2) = #[.int .i8 C, .slice a1 k cp1] := (grown_row hgrow (by first | omega | (simp <;> omega)) (fun h => by have := HNE.out _ h.symm; omega)).trans (by (go_simp <;> (intros; omega)))
      have hfB2 : frOf w2 w.heap.size = (0, 0) := (grown_fr hgrow (by first | omega | (simp <;> omega)) (fun h => by have := HNE.out _ h.symm; omega)).trans (by (go_simp <;> (intros; omega)))
      have hfM2 : frOf w2 (w.heap.size + 2) = (0, 0) := (grown_fr hgrow (by first | omega | (simp <;> omega)) (fun h => by have := HNE.out _ h.symm; omega)).trans (by (go_simp <;> (intros; omega)))
      rw [← HQ.out] at hown'
      obtain ⟨a2, cp2, rfl⟩ := owns_len hown'
      have HB2 := Lib.hid hbg
      have HW := Lib.hid hown'
      have HNE2 := Lib.hid (owns_base hown')
      clear hbg hown' hgrow hat
      have hszw := HB2.out.size
      go_wp2
      go_roundw
      case rel => first | exact ⟨k + 1, .slice a2 (k + 1) cp2, by omega, by go_num, owns_other HW.out (fun q hq => Go.Deep.blk_setCell_other _ _ _ _ (by have := HNE2.out q hq; show q ≠ w.heap.size + 2; omega)), (HB2.out.setCell (by show w.heap.size ≤ w.heap.size + 2; omega) _), by first | omega | (simp <;> omega), by (go_simp <;> (intros; omega)), by (go_simp <;> (intros; omega)), by (go_simp <;> (intros; omega)), by (go_simp <;> (intros; omega)), by (go_simp <;> (intros; omega))⟩ | ((repeat (with_reducible apply Exists.intro)); refine And.intro ?_ ?_; rotate_left; (focus ((repeat' (with_reducible apply And.intro)) <;> rfl)); exact ⟨k + 1, .slice a2 (k + 1) cp2, by omega, by go_num, owns_other HW.out (fun q hq => Go.Deep.blk_setCell_other _ _ _ _ (by have := HNE2.out q hq; show q ≠ w.heap.size + 2; omega)), (HB2.out.setCell (by show w.heap.size ≤ w.heap.size + 2; omega) _), by first | omega | (simp <;> omega), by (go_simp <;> (intros; omega)), by (go_simp <;> (intros; omega)), by (go_simp <;> (intros; omega)), by (go_simp <;> (intros; omega)), by (go_simp <;> (intros; omega))⟩)
      case measure => simp [intOf]; omega
    · have hke : k = r.length := by omega
      subst hke
      have hd : decide ((r.length : Int) < (r.length : Int)) = false := decide_eq_false (by omega)
      have HV := Lib.hid (show OwnK .i8 2 wr (w.heap.size + 3) (.slice a1 r.length cp1) r.length (gOf (r.map icw)) by have h := HO.out; rw [List.take_of_length_le (by rw [List.length_map]; exact Nat.le_refl _)] at h; have h2 := owns_cellsP (L := r.map icw) (by rw [List.length_map]; exact h); rw [List.length_map] at h2; exact h2)
      have hcb : -128 ≤ C ∧ C ≤ 127 := hCb
      have HT0 := fun w h => iMarkText_any C hcb ((.slice a1 r.length cp1)) r.length (gOf (r.map icw)) (by omega) (by first | exact gOf_in (fun p hp => by obtain ⟨x, -, rfl⟩ := List.mem_map.1 hp; exact icw_in x) | (have := gOf_in (L := r.map icw) (fun p hp => by obtain ⟨x, -, rfl⟩ := List.mem_map.1 hp; exact icw_in x); rw [List.length_map] at this; exact this) | (intro j hj; omega)) w h
      by_cases hl0 : l = []
      · have HRD := Lib.hid (rm_none (show sMark l = none by rw [hl0]; rfl))
        subst hl0
        go_wp2
        refine bodyPost_ret (v := .tuple #[.agg #[.int .i8 0, .slice none 0 0], .int .i64 5]) (res_ct rfl rfl (by (go_simp <;> (intros; omega))) rfl) rfl ⟨_, by rw [HRD.out.1, HRD.out.2.2], by rw [HRD.out.2.1]; exact own_nil, by repeat' (first | with_reducible exact Below.refl _ _ | with_reducible assumption | with_reducible refine Below.drew ?_ | with_reducible refine Below.drewN ?_ _ | with_reducible refine Below.alloc ?_ ?_ _ | with_reducible refine Below.setCell ?_ ?_ _ | with_reducible refine Below.setRow ?_ ?_ _ | with_reducible refine below_step (by assumption) ?_ ?_ | (show (_ : Nat) ≤ _; first | omega | (simp <;> omega)))⟩
      have hlb : (l == []) = false := by cases l <;> first | (exact absurd rfl hl0) | rfl
      rcases HLAW.out with ⟨col, L', h1, h2, -, h4⟩ | ⟨h1, h2⟩
      · rw [HIM.out] at h2
        simp only [Prod.mk.injEq] at h2
        obtain ⟨rfl, hL⟩ := h2
        subst hL
        have HRD := Lib.hid (rm_some h1)
        rw [List.length_map] at h4
        rw [h4] at HT0
        have HT := Lib.hid HT0
        clear HT0 h1 h4
        go_wp2_with (go_at_call 20; refine (HT.out _ (HV.out.below (by repeat' (first | with_reducible exact Below.refl _ _ | with_reducible assumption | with_reducible refine Below.drew ?_ | with_reducible refine Below.drewN ?_ _ | with_reducible refine Below.alloc ?_ ?_ _ | with_reducible refine Below.setCell ?_ ?_ _ | with_reducible refine Below.setRow ?_ ?_ _ | with_reducible refine below_step (by assumption) ?_ ?_ | (show (_ : Nat) ≤ _; first | omega | (simp <;> omega)))) (Nat.le_refl _)).slA).mono ?_; rintro e wf ⟨rfl, hbf⟩; have r_hbf := keep_rowA hbf; have f_hbf := keep_frA hbf; have s_hbf := hbf.size; (try simp only [World.size_alloc, World.size_setCell, setRow_size, World.size_drew, size_drewNm] at r_hbf f_hbf s_hbf))
        refine bodyPost_ret (v := .tuple #[.agg #[.int .i8 C, (.slice a1 r.length cp1)], .int .i64 0]) (res_ct rfl rfl (by (go_simp <;> (intros; omega))) rfl) rfl ⟨_, by rw [HRD.out.1, HRD.out.2.2], ?_, by repeat' (first | with_reducible exact Below.refl _ _ | with_reducible assumption | with_reducible refine Below.drew ?_ | with_reducible refine Below.drewN ?_ _ | with_reducible refine Below.alloc ?_ ?_ _ | with_reducible refine Below.setCell ?_ ?_ _ | with_reducible refine Below.setRow ?_ ?_ _ | with_reducible refine below_step (by assumption) ?_ ?_ | (show (_ : Nat) ≤ _; first | omega | (simp <;> omega)))⟩
        rw [HRD.out.2.1, List.length_map]
        refine ((HV.out.below (w' := wf) (by repeat' (first | with_reducible exact Below.refl _ _ | with_reducible assumption | with_reducible refine Below.drew ?_ | with_reducible refine Below.drewN ?_ _ | with_reducible refine Below.alloc ?_ ?_ _ | with_reducible refine Below.setCell ?_ ?_ _ | with_reducible refine Below.setRow ?_ ?_ _ | with_reducible refine below_step (by assumption) ?_ ?_ | (show (_ : Nat) ≤ _; first | omega | (simp <;> omega)))) (Nat.le_refl _)).other ?_ (fun g h1 h2 => ?_)).down (by omega)
        · skip
          simp only [World.size_alloc, World.size_setCell, setRow_size, World.size_drew, size_drewNm]; omega
        have e1 : g ≠ w.heap.size := by omega
        constructor <;> go_simp
      · have HRD := Lib.hid (rm_none h1)
        rw [HIM.out] at h2
        have hne : markTx C (gOf (r.map icw)) r.length ≠ l := by
          rcases h2 with h2 | h2
          · exact absurd h2 hl0
          · simp only [List.length_map] at h2; exact h2
        have HT := Lib.hid HT0
        clear HT0 h1 h2
        generalize markTx C (gOf (r.map icw)) r.length = t2 at *
        have hnb : (t2 == l) = false := by rw [beq_eq_false_iff_ne]; exact hne
        go_wp2_with (go_at_call 20; refine (HT.out _ (HV.out.below (by repeat' (first | with_reducible exact Below.refl _ _ | with_reducible assumption | with_reducible refine Below.drew ?_ | with_reducible refine Below.drewN ?_ _ | with_reducible refine Below.alloc ?_ ?_ _ | with_reducible refine Below.setCell ?_ ?_ _ | with_reducible refine Below.setRow ?_ ?_ _ | with_reducible refine below_step (by assumption) ?_ ?_ | (show (_ : Nat) ≤ _; first | omega | (simp <;> omega)))) (Nat.le_refl _)).slA).mono ?_; rintro e wf ⟨rfl, hbf⟩; have r_hbf := keep_rowA hbf; have f_hbf := keep_frA hbf; have s_hbf := hbf.size; (try simp only [World.size_alloc, World.size_setCell, setRow_size, World.size_drew, size_drewNm] at r_hbf f_hbf s_hbf))
        refine bodyPost_ret (v := .tuple #[.agg #[.int .i8 0, .slice none 0 0], .int .i64 5]) (res_ct rfl rfl (by (go_simp <;> (intros; omega))) rfl) rfl ⟨_, by rw [HRD.out.1, HRD.out.2.2], by rw [HRD.out.2.1]; exact own_nil, by repeat' (first | with_reducible exact Below.refl _ _ | with_reducible assumption | with_reducible refine Below.drew ?_ | with_reducible refine Below.drewN ?_ _ | with_reducible refine Below.alloc ?_ ?_ _ | with_reducible refine Below.setCell ?_ ?_ _ | with_reducible refine Below.setRow ?_ ?_ _ | with_reducible refine below_step (by assumption) ?_ ?_ | (show (_ : Nat) ≤ _; first | omega | (simp <;> omega)))⟩
end Go.Proofs.YtejnejplofddnaaGreatDoor
