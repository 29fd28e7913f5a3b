/- Several texts in one: Spl FRead MRead Wrap OpenStr SplS ReadI FReadI FReadS. -/
import Derived.Test.YtbnhhjjhjjmmjaaDoorFText
import Derived.Lib.Split
import Derived.Lib.ParseIntB
import Derived.Test.YtbnhhjjhjjmmjaaDoorMark
import Derived.Test.YtbnhhjjhjjmmjaaDoorBase
import Derived.Handed
import Derived.HandedShaped
import Derived.LaidMore
import Derived.Lay
import Derived.Lib.LaidTab
import Derived.WideShapes
import Derived.ChangeArms
import Derived.Test.YtbnhhjjhjjmmjaaDoorFTextI
import Derived.Test.YtbnhhjjhjjmmjaaDoorShelfD
import Derived.Stop.LaidErr
import Derived.Maps.AppendAt
/- Words of a text, and numbers of a few digits: plain. -/
namespace Go.Proofs.YtbnhhjjhjjmmjaaDoor
set_option linter.unusedVariables false
set_option linter.unusedSimpArgs false
set_option maxRecDepth 100000
/-- A text split at a byte. -/
def glue (p : List UInt8) : List (List UInt8) → List (List UInt8)
  | [] => [p]
  | h :: t => (p ++ h) :: t
def sp (b : UInt8) : List UInt8 → List (List UInt8)
  | [] => [[]]
  | c :: l => if c = b then [] :: sp b l else glue [c] (sp b l)
theorem glue_glue (p q : List UInt8) (x : List (List UInt8)) : glue p (glue q x) = glue (p ++ q) x := by cases x <;> simp [glue]
theorem glue_nil {x : List (List UInt8)} (h : x ≠ []) : glue [] x = x := by cases x <;> simp [glue] at h ⊢
theorem glue_ne (p : List UInt8) (x : List (List UInt8)) : glue p x ≠ [] := by cases x <;> simp [glue]
theorem sp_ne (b : UInt8) (l : List UInt8) : sp b l ≠ [] := by
  cases l with
  | nil => simp [sp]
  | cons c l => unfold sp; split; · simp
                · exact glue_ne _ _
theorem sp_hit {b : UInt8} {l : List UInt8} {i : Nat} (h : l[i]? = some b) (p : List UInt8) : glue p (sp b (l.drop i)) = p :: sp b (l.drop (i + 1)) := by
  obtain ⟨hi, he⟩ := List.getElem?_eq_some_iff.1 h
  rw [List.drop_eq_getElem_cons hi, he, sp, if_pos rfl, glue, List.append_nil]
theorem sp_miss {b c : UInt8} {l : List UInt8} {i : Nat} (h : l[i]? = some c) (hc : c ≠ b) (p : List UInt8) : glue p (sp b (l.drop i)) = glue (p ++ [c]) (sp b (l.drop (i + 1))) := by
  obtain ⟨hi, he⟩ := List.getElem?_eq_some_iff.1 h
  rw [List.drop_eq_getElem_cons hi, he, sp, if_neg hc, glue_glue]
theorem sp_end (b : UInt8) {l : List UInt8} {i : Nat} (h : l.length ≤ i) (p : List UInt8) : glue p (sp b (l.drop i)) = [p] := by
  rw [List.drop_eq_nil_of_le h]; show [p ++ []] = _; rw [List.append_nil]
/-- The piece between two places. -/
def seg (l : List UInt8) (a i : Nat) : List UInt8 := (l.drop a).take (i - a)
theorem seg_same (l : List UInt8) (a : Nat) : seg l a a = [] := by unfold seg; rw [Nat.sub_self]; rfl
theorem seg_next {l : List UInt8} {a i : Nat} {c : UInt8} (h : l[i]? = some c) (ha : a ≤ i) : seg l a (i + 1) = seg l a i ++ [c] := by
  unfold seg
  rw [show i + 1 - a = (i - a) + 1 from by omega, List.take_add_one, List.getElem?_drop, show a + (i - a) = i from by omega, h]; rfl
theorem join_glue (b : UInt8) (p : List UInt8) {x : List (List UInt8)} (h : x ≠ []) : Lib.join (glue p x) [b] = p ++ Lib.join x [b] := by
  cases x with
  | nil => exact absurd rfl h
  | cons y r => rw [glue, Lib.join_cons, Lib.join_cons, List.append_assoc]
theorem join_nilc (b : UInt8) {x : List (List UInt8)} (h : x ≠ []) : Lib.join ([] :: x) [b] = b :: Lib.join x [b] := by
  cases x with
  | nil => exact absurd rfl h
  | cons y r => rw [Lib.join_cons, Lib.join_cons]; rfl
theorem join_sp (b : UInt8) : ∀ l, Lib.join (sp b l) [b] = l
  | [] => Lib.join_one _ _
  | c :: l => by
    unfold sp
    split
    · rename_i h; rw [join_nilc _ (sp_ne _ _), join_sp b l, h]
    · rw [join_glue _ _ (sp_ne _ _), join_sp b l]; rfl
theorem sp_one {b : UInt8} : ∀ {l : List UInt8}, b ∉ l → sp b l = [l]
  | [], _ => rfl
  | c :: l, h => by
    rw [sp, if_neg (fun e => h (by rw [e]; exact List.mem_cons_self)), sp_one (fun e => h (List.mem_cons_of_mem _ e))]; rfl
theorem sp_app {b : UInt8} : ∀ {l : List UInt8}, b ∉ l → ∀ r, sp b (l ++ b :: r) = l :: sp b r
  | [], _, r => by rw [List.nil_append, sp, if_pos rfl]
  | c :: l, h, r => by
    rw [List.cons_append, sp, if_neg (fun e => h (by rw [e]; exact List.mem_cons_self)), sp_app (fun e => h (List.mem_cons_of_mem _ e))]; rfl
theorem sp_join {b : UInt8} : ∀ {x : List UInt8} {r : List (List UInt8)}, (∀ y ∈ x :: r, b ∉ y) → sp b (Lib.join (x :: r) [b]) = x :: r
  | x, [], h => by rw [Lib.join_one, sp_one (h x (by simp))]
  | x, y :: r, h => by
    rw [Lib.join_cons, show Lib.joinTail [b] (y :: r) = b :: (y ++ Lib.joinTail [b] r) by simp [Lib.joinTail], ← Lib.join_cons, sp_app (h x (by simp)), sp_join (fun z hz => h z (List.mem_cons_of_mem _ hz))]
theorem sp_free {b : UInt8} : ∀ {l : List UInt8} {x : List UInt8}, x ∈ sp b l → b ∉ x
  | [], x, h => by simp [sp] at h; subst h; simp
  | c :: l, x, h => by
    unfold sp at h
    split at h
    · rcases List.mem_cons.1 h with rfl | h
      · simp
      · exact sp_free h
    · rename_i hc
      cases hs : sp b l with
      | nil => exact absurd hs (sp_ne _ _)
      | cons y r =>
        rw [hs] at h
        rcases List.mem_cons.1 h with rfl | h
        · intro hb
          rcases List.mem_cons.1 hb with e | hb
          · exact hc e.symm
          · exact sp_free (l := l) (by rw [hs]; exact List.mem_cons_self) hb
        · exact sp_free (l := l) (by rw [hs]; exact List.mem_cons_of_mem _ h)
theorem glue_len (p : List UInt8) {x : List (List UInt8)} (h : x ≠ []) : (glue p x).length = x.length := by
  cases x with
  | nil => exact absurd rfl h
  | cons y r => rfl
theorem sp_len (b : UInt8) : ∀ l, (sp b l).length ≤ l.length + 1
  | [] => Nat.le_refl _
  | c :: l => by
    have := sp_len b l
    unfold sp
    split
    · simp; omega
    · rw [glue_len _ (sp_ne _ _)]; simp; omega
/-- The library's words are the same. -/
theorem index_cons (b c : UInt8) (l : List UInt8) : Lib.index (c :: l) [b] = if c = b then 0 else if Lib.index l [b] == -1 then -1 else Lib.index l [b] + 1 := by
  rw [Lib.index]
  by_cases h : c = b
  · subst h; simp
  · have h2 : ([b].isPrefixOf (c :: l)) = false := by
      show (b == c && true) = false
      rw [Bool.and_true]
      exact beq_false_of_ne (fun e => h e.symm)
    rw [h2, if_neg h]; simp
theorem index_miss {b : UInt8} {l : List UInt8} (h : b ∉ l) : Lib.index l [b] = -1 := by
  induction l with
  | nil => rfl
  | cons c l ih =>
    rw [index_cons, if_neg (fun e => h (by rw [e]; exact List.mem_cons_self)), ih (fun e => h (List.mem_cons_of_mem _ e))]; rfl
theorem index_app {b : UInt8} {l : List UInt8} (h : b ∉ l) (r : List UInt8) : Lib.index (l ++ b :: r) [b] = l.length := by
  induction l with
  | nil => rw [List.nil_append, index_cons, if_pos rfl]; rfl
  | cons c l ih =>
    rw [List.cons_append, index_cons, if_neg (fun e => h (by rw [e]; exact List.mem_cons_self)), ih (fun e => h (List.mem_cons_of_mem _ e))]
    rw [if_neg (by simp)]; simp
theorem split_parts (b : UInt8) (l : List UInt8) : (b ∉ l) ∨ ∃ x r, l = x ++ b :: r ∧ b ∉ x := by
  induction l with
  | nil => exact .inl (by simp)
  | cons c l ih =>
    by_cases h : c = b
    · subst h; exact .inr ⟨[], l, rfl, by simp⟩
    · rcases ih with h2 | ⟨x, r, rfl, hx⟩
      · exact .inl (fun e => by rcases List.mem_cons.1 e with e | e; · exact h e.symm
                                · exact h2 e)
      · exact .inr ⟨c :: x, r, rfl, fun e => by rcases List.mem_cons.1 e with e | e; · exact h e.symm
                                                · exact hx e⟩
theorem splitK_sp (b : UInt8) : ∀ (n : Nat) (l : List UInt8), l.length ≤ n → Lib.splitK [b] 0 (Lib.count l [b]) l = sp b l ∧ Lib.count l [b] + 1 = (sp b l).length := by
  intro n
  induction n with
  | zero =>
    intro l hl
    obtain rfl : l = [] := List.length_eq_zero_iff.1 (by omega)
    exact ⟨rfl, rfl⟩
  | succ n ih =>
    intro l hl
    rcases split_parts b l with h | ⟨x, r, rfl, hx⟩
    · rw [Lib.count_miss (index_miss h), sp_one h]; exact ⟨rfl, rfl⟩
    · have hi := index_app hx r
      have hd : (x ++ b :: r).drop (x.length + 1) = r := by rw [show x ++ b :: r = (x ++ [b]) ++ r by simp, List.drop_left' (by simp)]
      have hc : Lib.count (x ++ b :: r) [b] = 1 + Lib.count r [b] := by
        rw [Lib.count_hit (by simp) hi]; show 1 + Lib.count ((x ++ b :: r).drop (x.length + 1)) [b] = _; rw [hd]
      obtain ⟨h1, h2⟩ := ih r (by simp at hl; omega)
      rw [hc, sp_app hx]
      refine ⟨?_, by simp; omega⟩
      rw [Nat.add_comm 1, Lib.splitK, hi, if_neg (by simp)]
      show ((x ++ b :: r).take x.length) :: Lib.splitK [b] 0 _ ((x ++ b :: r).drop (x.length + 1)) = _
      rw [hd, h1, List.take_left' rfl]
theorem split_is (b : UInt8) (l : List UInt8) : Lib.splitB (tx [b]) 0 (Lib.countB (tx l) (tx [b])) (tx l) = (sp b l).map tx := by
  have h := Lib.splitB_data (tx [b]) 0 (Lib.countB (tx l) (tx [b])) (tx l)
  have h2 : Lib.countB (tx l) (tx [b]) = Lib.count l [b] := rfl
  rw [h2] at h ⊢
  have h3 : Lib.splitK (tx [b]).data.toList 0 (Lib.count l [b]) (tx l).data.toList = sp b l := (splitK_sp b l.length l (Nat.le_refl _)).1
  rw [h3] at h
  rw [← h, List.map_map]
  conv => lhs; rw [← List.map_id (Lib.splitB (tx [b]) 0 (Lib.count l [b]) (tx l))]
  exact List.map_congr_left fun x _ => rfl
theorem count_is (b : UInt8) (l : List UInt8) : Lib.countB (tx l) (tx [b]) + 1 = (sp b l).length := (splitK_sp b l.length l (Nat.le_refl _)).2
/-- Cut at a byte. -/
def cut1 (b : UInt8) (l : List UInt8) : List UInt8 := (Lib.cut l [b]).1
def cut2 (b : UInt8) (l : List UInt8) : List UInt8 := (Lib.cut l [b]).2.1
theorem cut_app {b : UInt8} {l : List UInt8} (h : b ∉ l) (r : List UInt8) : cut1 b (l ++ b :: r) = l ∧ cut2 b (l ++ b :: r) = r := by
  have hd : (l ++ b :: r).drop (l.length + 1) = r := by rw [show l ++ b :: r = (l ++ [b]) ++ r by simp, List.drop_left' (by simp)]
  unfold cut1 cut2 Lib.cut
  rw [index_app h, if_pos (by omega)]
  refine ⟨?_, ?_⟩
  · show (l ++ b :: r).take l.length = l; exact List.take_left' rfl
  · show (l ++ b :: r).drop (l.length + 1) = r; exact hd
theorem cut_miss {b : UInt8} {l : List UInt8} (h : b ∉ l) : cut1 b l = l ∧ cut2 b l = [] := by
  unfold cut1 cut2 Lib.cut
  rw [index_miss h, if_neg (by omega)]; exact ⟨rfl, rfl⟩
theorem cut1_len (b : UInt8) (l : List UInt8) : (cut1 b l).length ≤ l.length := by
  rcases split_parts b l with h | ⟨x, r, rfl, hx⟩
  · rw [(cut_miss h).1]; exact Nat.le_refl _
  · rw [(cut_app hx r).1]; simp
theorem cut2_len (b : UInt8) (l : List UInt8) : (cut2 b l).length ≤ l.length := by
  rcases split_parts b l with h | ⟨x, r, rfl, hx⟩
  · rw [(cut_miss h).2]; simp
  · rw [(cut_app hx r).2]; simp; omega
theorem sp_two {b : UInt8} {l x y : List UInt8} (h : sp b l = [x, y]) : l = x ++ b :: y ∧ b ∉ x ∧ b ∉ y := by
  have h1 := join_sp b l
  rw [h, Lib.join_cons] at h1
  refine ⟨by rw [← h1]; simp [Lib.joinTail], sp_free (l := l) (by rw [h]; simp), sp_free (l := l) (by rw [h]; simp)⟩
/-- The reference's numbers. -/
def digs (acc : Nat) : List UInt8 → Option Nat
  | [] => some acc
  | c :: r => if c.toNat < 48 ∨ 57 < c.toNat then none else digs (10 * acc + (c.toNat - 48)) r
def numB (l : List UInt8) : Option Nat := if l = [] ∨ 9 < l.length ∨ (l[0]? = some 48 ∧ 1 < l.length) then none else digs 0 l
theorem digs_ge : ∀ (l : List UInt8) (acc n : Nat), digs acc l = some n → acc ≤ n
  | [], acc, n, h => by simp [digs] at h; omega
  | c :: r, acc, n, h => by
    unfold digs at h
    split at h
    · cases h
    · have := digs_ge r _ n h; omega
/-- A number below ten is one digit. -/
theorem numB_small {l : List UInt8} {n : Nat} (h : numB l = some n) (hn : n < 10) : l = [by8 (48 + (n : Int))] := by
  unfold numB at h
  split at h
  · cases h
  · rename_i hc
    match l, h, hc with
    | [], _, hc => exact absurd (.inl rfl) hc
    | [c], h, _ =>
      simp only [digs] at h
      split at h
      · cases h
      · rename_i hd
        simp only [Option.some.injEq] at h
        unfold by8
        congr 1
        apply UInt8.toNat_inj.1
        rw [UInt8.toNat_ofNat']
        omega
    | c :: d :: r, h, hc =>
      rw [digs] at h
      split at h
      · cases h
      · rename_i h1
        rw [digs] at h
        split at h
        · cases h
        · rename_i h2
          have := digs_ge r _ n h
          exfalso
          apply hc
          refine .inr (.inr ⟨?_, by simp⟩)
          have hc0 : c.toNat = 48 := by omega
          show some c = some 48
          congr 1
          apply UInt8.toNat_inj.1
          rw [hc0]; rfl
theorem numB_dig {i : Nat} (hi : i < 10) : numB [by8 (48 + (i : Int))] = some i := by
  rcases (by omega : i = 0 ∨ i = 1 ∨ i = 2 ∨ i = 3 ∨ i = 4 ∨ i = 5 ∨ i = 6 ∨ i = 7 ∨ i = 8 ∨ i = 9) with rfl | rfl | rfl | rfl | rfl | rfl | rfl | rfl | rfl | rfl <;> rfl
/-- What the program's parser makes of a text, at eight bits: the number alone. -/
def pi8 (l : List UInt8) : Int := match Lib.parseIntB 8 l with | .ok v => v | .syntax => 0 | .range => Lib.intSat 8 l
theorem pi8_dig {i : Nat} (hi : i < 10) : pi8 [by8 (48 + (i : Int))] = i := by
  rcases (by omega : i = 0 ∨ i = 1 ∨ i = 2 ∨ i = 3 ∨ i = 4 ∨ i = 5 ∨ i = 6 ∨ i = 7 ∨ i = 8 ∨ i = 9) with rfl | rfl | rfl | rfl | rfl | rfl | rfl | rfl | rfl | rfl <;> rfl
end Go.Proofs.YtbnhhjjhjjmmjaaDoor
/- Folds read from a text: plain. -/
namespace Go.Proofs.YtbnhhjjhjjmmjaaDoor
set_option linter.unusedVariables false
set_option linter.unusedSimpArgs false
set_option maxRecDepth 100000
/-- A digit is not a byte below the digits. -/
theorem by8_toNat {i : Nat} (hi : i < 10) : (by8 (48 + (i : Int))).toNat = 48 + i := by
  unfold by8
  rw [UInt8.toNat_ofNat']; omega
theorem by8_ne {i : Nat} (hi : i < 10) {b : UInt8} (hb : b.toNat < 48) : b ≠ by8 (48 + (i : Int)) := fun e => by
  have := congrArg UInt8.toNat e
  rw [by8_toNat hi] at this
  omega
/-- The fold of a word: the reference. -/
def sfk (k : UInt8) (l v : List UInt8) : Option Fd :=
  match numB l, numB v with
  | some a, some p => if a ≤ 8 ∧ p ≤ 8 ∧ plainB ⟨(a : Int), k == 104, (p : Int)⟩ = true then some ⟨(a : Int), k == 104, (p : Int)⟩ else none
  | _, _ => none
def sfw (w : List UInt8) : Option Fd :=
  match sp 47 w with
  | [k :: d :: r, v] => if k = 118 ∨ k = 104 then sfk k (d :: r) v else none
  | _ => none
def sfs : List (List UInt8) → Option (List Fd)
  | [] => some []
  | w :: r => match sfw w with
    | none => none
    | some x => match sfs r with
      | none => none
      | some l => some (x :: l)
def sFolds (t : List UInt8) : Option (List Fd) := if t = [] then some [] else if 30 < (sp 32 t).length then none else sfs (sp 32 t)
/-- The program's. -/
def ifw (w : List UInt8) : Fd := ⟨IntKind.i8.wrap (pi8 (cut1 47 (w.drop 1))), w[0]? == some 104, IntKind.i8.wrap (pi8 (cut2 47 (w.drop 1)))⟩
def ifs : List (List UInt8) → List Fd
  | [] => []
  | w :: r => if w = [] then ifs r else ifw w :: ifs r
def iFolds (t : List UInt8) : List Fd := ifs (sp 32 t)
def fnOf (L : List Fd) : Nat → Fd := fun k => L.getD k ⟨0, false, 0⟩
theorem plain_nat {x : Fd} (h : plainB x = true) : ∃ a p : Nat, 1 ≤ a ∧ a ≤ 7 ∧ 1 ≤ p ∧ p ≤ 8 ∧ x = ⟨(a : Int), x.d, (p : Int)⟩ := by
  obtain ⟨⟨h1, h2⟩, h3, h4⟩ := plainB_true h
  obtain ⟨a, d, p⟩ := x
  simp only at h1 h2 h3 h4
  refine ⟨a.toNat, p.toNat, by omega, by omega, by omega, by omega, ?_⟩
  rw [Int.toNat_of_nonneg (by omega), Int.toNat_of_nonneg (by omega)]
theorem kind_ne (d : Bool) {b : UInt8} (hb : b.toNat < 48) : b ≠ kindB d := fun e => by
  subst e
  cases d <;> (revert hb; decide)
theorem fold_free {x : Fd} (h : plainB x = true) : (32 : UInt8) ∉ foldTx x := by
  obtain ⟨a, p, h1, h2, h3, h4, hx⟩ := plain_nat h
  rw [hx]
  unfold foldTx
  intro hm
  simp only [List.mem_cons, List.not_mem_nil, or_false] at hm
  rcases hm with e | e | e | e
  · exact kind_ne _ (by decide) e
  · exact by8_ne (by omega) (by decide) e
  · revert e; decide
  · exact by8_ne (by omega) (by decide) e
theorem fold_sp {x : Fd} (h : plainB x = true) : sp 47 (foldTx x) = [[kindB x.d, by8 (48 + x.a)], [by8 (48 + x.p)]] := by
  obtain ⟨a, p, h1, h2, h3, h4, hx⟩ := plain_nat h
  rw [hx]
  have e1 : (47 : UInt8) ∉ [kindB x.d, by8 (48 + (a : Int))] := fun hm => by
    simp only [List.mem_cons, List.not_mem_nil, or_false] at hm
    rcases hm with e | e
    · exact kind_ne _ (by decide) e
    · exact by8_ne (by omega) (by decide) e
  have e2 : (47 : UInt8) ∉ [by8 (48 + (p : Int))] := fun hm => by
    simp only [List.mem_cons, List.not_mem_nil, or_false] at hm
    exact by8_ne (by omega) (by decide) hm
  show sp 47 ([kindB x.d, by8 (48 + (a : Int))] ++ 47 :: [by8 (48 + (p : Int))]) = _
  rw [sp_app e1, sp_one e2]
theorem kind_is (d : Bool) : (kindB d == 104) = d := by cases d <;> rfl
theorem kind_or (d : Bool) : kindB d = 118 ∨ kindB d = 104 := by cases d <;> decide
theorem sfw_fold {x : Fd} (h : plainB x = true) : sfw (foldTx x) = some x := by
  have h0 := h
  obtain ⟨a, p, h1, h2, h3, h4, hx⟩ := plain_nat h
  unfold sfw
  rw [fold_sp h]
  simp only [if_pos (kind_or x.d)]
  unfold sfk
  have ha : x.a = (a : Int) := by rw [hx]
  have hp : x.p = (p : Int) := by rw [hx]
  rw [ha, hp, numB_dig (by omega), numB_dig (by omega)]
  simp only [kind_is]
  rw [← hx, if_pos ⟨by omega, by omega, h0⟩]
theorem sfw_some {w : List UInt8} {x : Fd} (h : sfw w = some x) : w = foldTx x ∧ plainB x = true := by
  unfold sfw at h
  split at h
  · rename_i k d r v hs
    split at h
    · rename_i hk
      unfold sfk at h
      split at h
      · rename_i a p ha hp
        split at h
        · rename_i hc
          simp only [Option.some.injEq] at h
          subst h
          refine ⟨?_, hc.2.2⟩
          rw [(sp_two hs).1, numB_small ha (by omega), numB_small hp (by omega)]
          unfold foldTx
          rcases hk with rfl | rfl <;> rfl
        · cases h
      · cases h
    · cases h
  · cases h
theorem ifw_fold {x : Fd} (h : plainB x = true) : ifw (foldTx x) = x := by
  obtain ⟨a, p, h1, h2, h3, h4, hx⟩ := plain_nat h
  have ha : x.a = (a : Int) := by rw [hx]
  have hp : x.p = (p : Int) := by rw [hx]
  have e1 : (47 : UInt8) ∉ [by8 (48 + (a : Int))] := fun hm => by
    simp only [List.mem_cons, List.not_mem_nil, or_false] at hm
    exact by8_ne (by omega) (by decide) hm
  have hd : (foldTx x).drop 1 = [by8 (48 + (a : Int))] ++ 47 :: [by8 (48 + (p : Int))] := by unfold foldTx; rw [ha, hp]; rfl
  have h0 : ((foldTx x)[0]? == some 104) = x.d := by
    show (some (kindB x.d) == some 104) = x.d
    cases x.d <;> rfl
  unfold ifw
  rw [hd, (cut_app e1 _).1, (cut_app e1 _).2, pi8_dig (by omega), pi8_dig (by omega), h0]
  rw [hx]
  congr 1
  · simp only [IntKind.wrap, IntKind.bits, IntKind.signed]; simp; omega
  · simp only [IntKind.wrap, IntKind.bits, IntKind.signed]; simp; omega
theorem sfs_some : ∀ {l : List (List UInt8)} {L : List Fd}, sfs l = some L → l = L.map foldTx ∧ ∀ x ∈ L, plainB x = true
  | [], L, h => by simp [sfs] at h; subst h; exact ⟨rfl, fun x hx => by cases hx⟩
  | w :: r, L, h => by
    unfold sfs at h
    split at h
    · cases h
    · rename_i x hx
      split at h
      · cases h
      · rename_i l hl
        simp only [Option.some.injEq] at h
        subst h
        obtain ⟨h1, h2⟩ := sfs_some hl
        obtain ⟨h3, h4⟩ := sfw_some hx
        refine ⟨by rw [List.map_cons, ← h3, ← h1], fun y hy => ?_⟩
        rcases List.mem_cons.1 hy with rfl | hy
        · exact h4
        · exact h2 y hy
theorem sfs_folds : ∀ {L : List Fd}, (∀ x ∈ L, plainB x = true) → sfs (L.map foldTx) = some L
  | [], _ => rfl
  | x :: L, h => by rw [List.map_cons, sfs, sfw_fold (h x (by simp)), sfs_folds (fun y hy => h y (List.mem_cons_of_mem _ hy))]
theorem ifs_folds : ∀ {L : List Fd}, (∀ x ∈ L, plainB x = true) → ifs (L.map foldTx) = L
  | [], _ => rfl
  | x :: L, h => by rw [List.map_cons, ifs, if_neg (by unfold foldTx; simp), ifw_fold (h x (by simp)), ifs_folds (fun y hy => h y (List.mem_cons_of_mem _ hy))]
theorem fnOf_at {L : List Fd} {k : Nat} (h : k < L.length) : fnOf L k = L[k] := by unfold fnOf; rw [List.getD_eq_getElem?_getD, List.getElem?_eq_getElem h]; rfl
theorem foldW_take (L : List Fd) : ∀ k, k ≤ L.length → foldW (fnOf L) k = (L.take k).map foldTx
  | 0, _ => rfl
  | k + 1, h => by
    show foldW (fnOf L) k ++ [foldTx (fnOf L k)] = _
    rw [foldW_take L k (by omega), fnOf_at (by omega), List.take_add_one, List.getElem?_eq_getElem (by omega), List.map_append]; rfl
theorem folds_join (L : List Fd) : foldsTx (fnOf L) L.length = Lib.join (L.map foldTx) [32] := by
  rw [← foldW_join, foldW_take L _ (Nat.le_refl _), List.take_length]
theorem foTo_all {L : List Fd} (h : ∀ x ∈ L, plainB x = true) : FoTo (fnOf L) L.length := fun k hk => by
  rw [fnOf_at hk]; exact plainB_true (h _ (List.getElem_mem hk))
theorem all_foTo {L : List Fd} (h : FoTo (fnOf L) L.length) : ∀ x ∈ L, plainB x = true := fun x hx => by
  obtain ⟨k, hk, rfl⟩ := List.getElem_of_mem hx
  have := h k hk
  rw [fnOf_at hk] at this
  unfold plainB
  rw [inB_true.2 this.1, inB_true.2 this.2]; rfl
open Classical in
theorem foB_to {F : Nat → Fd} {n : Nat} (h : foB F n = true) : FoTo F n ∧ n ≤ 30 := by
  unfold foB at h
  rw [Bool.and_eq_true] at h
  exact ⟨of_decide_eq_true h.1, of_decide_eq_true h.2⟩
/-- The law. -/
theorem folds_read (t : List UInt8) : (∃ L, sFolds t = some L ∧ iFolds t = L ∧ fTx (fnOf L) L.length = t) ∨ (sFolds t = none ∧ fTx (fnOf (iFolds t)) (iFolds t).length ≠ t) := by
  cases hs : sFolds t with
  | some L =>
    refine .inl ⟨L, rfl, ?_⟩
    unfold sFolds at hs
    split at hs
    · rename_i ht
      simp only [Option.some.injEq] at hs
      subst hs ht
      exact ⟨rfl, fTx_yes (fun k hk => absurd hk (Nat.not_lt_zero _)) (by simp)⟩
    · split at hs
      · cases hs
      · rename_i ht hl
        obtain ⟨h1, h2⟩ := sfs_some hs
        refine ⟨by unfold iFolds; rw [h1, ifs_folds h2], ?_⟩
        rw [fTx_yes (foTo_all h2) (by have := congrArg List.length h1; rw [List.length_map] at this; omega), folds_join, ← h1, join_sp]
  | none =>
    refine .inr ⟨rfl, fun he => ?_⟩
    generalize iFolds t = L at he
    have ht : t ≠ [] := fun e => by rw [e] at hs; cases hs
    unfold fTx at he
    split at he
    · rename_i hb
      obtain ⟨h1, h2⟩ := foB_to hb
      rw [folds_join] at he
      have hp := all_foTo h1
      have hsp : sp 32 t = L.map foldTx := by
        cases L with
        | nil => exact absurd he.symm ht
        | cons x r =>
          rw [← he]
          refine sp_join (fun y hy => ?_)
          obtain ⟨z, hz, rfl⟩ := List.mem_map.1 (show y ∈ List.map foldTx (x :: r) from hy)
          exact fold_free (hp z hz)
      unfold sFolds at hs
      rw [if_neg ht, hsp, if_neg (by rw [List.length_map]; omega), sfs_folds hp] at hs
      cases hs
    · exact ht he.symm
end Go.Proofs.YtbnhhjjhjjmmjaaDoor
/- A mark read from a text: plain. -/
namespace Go.Proofs.YtbnhhjjhjjmmjaaDoor
set_option linter.unusedVariables false
set_option linter.unusedSimpArgs false
set_option maxRecDepth 100000
/-- The cell of a word: the reference. -/
def scw (w : List UInt8) : Option (Int × Int) :=
  match sp 44 w with
  | [u, v] => match numB u, numB v with
    | some x, some y => if x < 8 ∧ y < 8 then some ((x : Int), (y : Int)) else none
    | _, _ => none
  | _ => none
def scs : List (List UInt8) → Option (List (Int × Int))
  | [] => some []
  | w :: r => match scw w with
    | none => none
    | some x => match scs r with
      | none => none
      | some l => some (x :: l)
def colS (w : List UInt8) : Int := if w = [97] then 0 else if w = [98] then 1 else if w = [99] then 2 else -1
def sMark (t : List UInt8) : Option (Int × List (Int × Int)) :=
  match sp 32 t with
  | [] => none
  | c :: r => if r.length < 1 ∨ 64 < r.length then none else match scs r with
    | none => none
    | some L => if colS c = -1 then none else some (colS c, L)
/-- The program's. -/
def icw (w : List UInt8) : Int × Int := (IntKind.i8.wrap (pi8 (cut1 44 w)), IntKind.i8.wrap (pi8 (cut2 44 w)))
def colI (w : List UInt8) : Int := IntKind.i8.wrap (Lib.index [97, 98, 99] w)
def iMark (t : List UInt8) : Int × List (Int × Int) :=
  match sp 32 t with
  | [] => (0, [])
  | c :: r => (colI c, r.map icw)
def gOf (L : List (Int × Int)) : Nat → Int := fun j => if j % 2 = 0 then (L.getD (j / 2) (0, 0)).1 else (L.getD (j / 2) (0, 0)).2
theorem gOf_even {L : List (Int × Int)} {k : Nat} (h : k < L.length) : gOf L (k * 2) = L[k].1 := by
  unfold gOf
  rw [if_pos (by omega), show k * 2 / 2 = k from by omega, List.getD_eq_getElem?_getD, List.getElem?_eq_getElem h]; rfl
theorem gOf_odd {L : List (Int × Int)} {k : Nat} (h : k < L.length) : gOf L (k * 2 + 1) = L[k].2 := by
  unfold gOf
  rw [if_neg (by omega), show (k * 2 + 1) / 2 = k from by omega, List.getD_eq_getElem?_getD, List.getElem?_eq_getElem h]; rfl
def inP (p : Int × Int) : Prop := (0 ≤ p.1 ∧ p.1 ≤ 7) ∧ 0 ≤ p.2 ∧ p.2 ≤ 7
def wordP (p : Int × Int) : List UInt8 := [by8 (48 + p.1), 44, by8 (48 + p.2)]
theorem inP_nat {p : Int × Int} (h : inP p) : ∃ a b : Nat, a ≤ 7 ∧ b ≤ 7 ∧ p = ((a : Int), (b : Int)) := by
  obtain ⟨⟨h1, h2⟩, h3, h4⟩ := h
  exact ⟨p.1.toNat, p.2.toNat, by omega, by omega, by rw [Int.toNat_of_nonneg h1, Int.toNat_of_nonneg h3]⟩
theorem dig_no {a : Nat} (ha : a < 10) {b : UInt8} (hb : b.toNat < 48) : b ∉ [by8 (48 + (a : Int))] := fun hm => by
  simp only [List.mem_cons, List.not_mem_nil, or_false] at hm
  exact by8_ne ha hb hm
theorem wordP_free {p : Int × Int} (h : inP p) : (32 : UInt8) ∉ wordP p := by
  obtain ⟨a, b, ha, hb, rfl⟩ := inP_nat h
  intro hm
  unfold wordP at hm
  simp only [List.mem_cons, List.not_mem_nil, or_false] at hm
  rcases hm with e | e | e
  · exact by8_ne (by omega) (by decide) e
  · revert e; decide
  · exact by8_ne (by omega) (by decide) e
theorem scw_word {p : Int × Int} (h : inP p) : scw (wordP p) = some p := by
  obtain ⟨a, b, ha, hb, rfl⟩ := inP_nat h
  unfold scw
  have e : sp 44 (wordP ((a : Int), (b : Int))) = [[by8 (48 + (a : Int))], [by8 (48 + (b : Int))]] := by
    show sp 44 ([by8 (48 + (a : Int))] ++ 44 :: [by8 (48 + (b : Int))]) = _
    rw [sp_app (dig_no (by omega) (by decide)), sp_one (dig_no (by omega) (by decide))]
  rw [e]
  simp only [numB_dig (show a < 10 from by omega), numB_dig (show b < 10 from by omega)]
  rw [if_pos ⟨by omega, by omega⟩]
theorem scw_some {w : List UInt8} {p : Int × Int} (h : scw w = some p) : w = wordP p ∧ inP p := by
  unfold scw at h
  split at h
  · rename_i u v hs
    split at h
    · rename_i x y hx hy
      split at h
      · rename_i hc
        simp only [Option.some.injEq] at h
        subst h
        refine ⟨?_, ⟨by omega, by simp only; omega⟩, by simp only; omega, by simp only; omega⟩
        rw [(sp_two hs).1, numB_small hx (by omega), numB_small hy (by omega)]; rfl
      · cases h
    · cases h
  · cases h
theorem wrap8_in {n : Int} (h : -128 ≤ n ∧ n ≤ 127) : IntKind.i8.wrap n = n := by simp only [IntKind.wrap, IntKind.bits, IntKind.signed]; simp; omega
theorem icw_word {p : Int × Int} (h : inP p) : icw (wordP p) = p := by
  obtain ⟨a, b, ha, hb, rfl⟩ := inP_nat h
  unfold icw
  have e : wordP ((a : Int), (b : Int)) = [by8 (48 + (a : Int))] ++ 44 :: [by8 (48 + (b : Int))] := rfl
  rw [e, (cut_app (dig_no (by omega) (by decide)) _).1, (cut_app (dig_no (by omega) (by decide)) _).2, pi8_dig (by omega), pi8_dig (by omega), wrap8_in (by omega), wrap8_in (by omega)]
theorem scs_some : ∀ {l : List (List UInt8)} {L : List (Int × Int)}, scs l = some L → l = L.map wordP ∧ ∀ x ∈ L, inP x
  | [], L, h => by simp [scs] at h; subst h; exact ⟨rfl, fun x hx => by cases hx⟩
  | w :: r, L, h => by
    unfold scs at h
    split at h
    · cases h
    · rename_i x hx
      split at h
      · cases h
      · rename_i l hl
        simp only [Option.some.injEq] at h
        subst h
        obtain ⟨h1, h2⟩ := scs_some hl
        obtain ⟨h3, h4⟩ := scw_some hx
        refine ⟨by rw [List.map_cons, ← h3, ← h1], fun y hy => ?_⟩
        rcases List.mem_cons.1 hy with rfl | hy
        · exact h4
        · exact h2 y hy
theorem scs_words : ∀ {L : List (Int × Int)}, (∀ x ∈ L, inP x) → scs (L.map wordP) = some L
  | [], _ => rfl
  | x :: L, h => by rw [List.map_cons, scs, scw_word (h x (by simp)), scs_words (fun y hy => h y (List.mem_cons_of_mem _ hy))]
theorem ics_words : ∀ {L : List (Int × Int)}, (∀ x ∈ L, inP x) → (L.map wordP).map icw = L
  | [], _ => rfl
  | x :: L, h => by rw [List.map_cons, List.map_cons, icw_word (h x (by simp)), ics_words (fun y hy => h y (List.mem_cons_of_mem _ hy))]
theorem cellsTx_take (L : List (Int × Int)) : ∀ k, k ≤ L.length → cellsTx (gOf L) k = Lib.joinTail [32] ((L.take k).map wordP)
  | 0, _ => rfl
  | k + 1, h => by
    rw [cellsTx, cellsTx_take L k (by omega), List.take_add_one, List.getElem?_eq_getElem (by omega), List.map_append, gOf_even (by omega), gOf_odd (by omega)]
    exact (joinTail_snoc _ _ _).symm
theorem cells_join (c : List UInt8) (L : List (Int × Int)) : c ++ cellsTx (gOf L) L.length = Lib.join (c :: L.map wordP) [32] := by
  rw [Lib.join_cons, cellsTx_take L _ (Nat.le_refl _), List.take_length]
theorem cellsTo_all {L : List (Int × Int)} (h : ∀ x ∈ L, inP x) : CellsTo (gOf L) L.length := fun k hk => by
  rw [gOf_even hk, gOf_odd hk]; exact h _ (List.getElem_mem hk)
theorem all_cellsTo {L : List (Int × Int)} (h : CellsTo (gOf L) L.length) : ∀ x ∈ L, inP x := fun x hx => by
  obtain ⟨k, hk, rfl⟩ := List.getElem_of_mem hx
  have := h k hk
  rwa [gOf_even hk, gOf_odd hk] at this
theorem colS_cases {c : List UInt8} (h : colS c ≠ -1) : (c = [97] ∧ colS c = 0) ∨ (c = [98] ∧ colS c = 1) ∨ (c = [99] ∧ colS c = 2) := by
  unfold colS at h ⊢
  split at h
  · rename_i e; rw [if_pos e]; exact .inl ⟨e, rfl⟩
  · split at h
    · rename_i e1 e; rw [if_neg e1, if_pos e]; exact .inr (.inl ⟨e, rfl⟩)
    · split at h
      · rename_i e1 e2 e; rw [if_neg e1, if_neg e2, if_pos e]; exact .inr (.inr ⟨e, rfl⟩)
      · exact absurd rfl h
theorem col_same {c : List UInt8} (h : colS c ≠ -1) : colI c = colS c ∧ c = [by8 (97 + colS c)] ∧ (colS c = 0 ∨ colS c = 1 ∨ colS c = 2) := by
  rcases colS_cases h with ⟨e, h⟩ | ⟨e, h⟩ | ⟨e, h⟩ <;> (rw [h, e]; refine ⟨by rfl, by rfl, by simp⟩)
/-- The law. -/
theorem mark_read (t : List UInt8) : (∃ col L, sMark t = some (col, L) ∧ iMark t = (col, L) ∧ t ≠ [] ∧ markTx col (gOf L) L.length = t) ∨ (sMark t = none ∧ (t = [] ∨ markTx (iMark t).1 (gOf (iMark t).2) (iMark t).2.length ≠ t)) := by
  cases hs : sMark t with
  | some q =>
    obtain ⟨col, L⟩ := q
    refine .inl ⟨col, L, rfl, ?_⟩
    have hj := join_sp 32 t
    unfold sMark at hs
    unfold iMark
    split at hs
    · cases hs
    · rename_i c r hsp
      rw [hsp] at hj
      try rw [hsp]
      split at hs
      · cases hs
      · rename_i hl
        split at hs
        · cases hs
        · rename_i L' hL
          split at hs
          · cases hs
          · rename_i hc
            simp only [Option.some.injEq, Prod.mk.injEq] at hs
            obtain ⟨rfl, rfl⟩ := hs
            obtain ⟨h1, h2⟩ := scs_some hL
            obtain ⟨h3, h4, h5⟩ := col_same hc
            have hlen : L'.length = r.length := by rw [h1, List.length_map]
            refine ⟨by rw [h3, h1, ics_words h2], ?_, ?_⟩
            · intro e
              rw [← hj, h4, Lib.join_cons] at e
              cases e
            have hm : markB (colS c) (gOf L') L'.length = true := by
              unfold markB
              rw [inB_true.2 (show 0 ≤ colS c ∧ colS c ≤ 2 by omega), inB_true.2 (show 1 ≤ (L'.length : Int) ∧ (L'.length : Int) ≤ 64 by omega), cells8_yes (cellsTo_all h2)]; rfl
            rw [markTx_yes hm, ← h4, cells_join, ← h1, hj]
  | none =>
    refine .inr ⟨rfl, ?_⟩
    by_cases ht : t = []
    · exact .inl ht
    refine .inr (fun he => ?_)
    generalize (iMark t).1 = col at he
    generalize (iMark t).2 = L at he
    unfold markTx at he
    split at he
    · rename_i hb
      unfold markB at hb
      rw [Bool.and_eq_true, Bool.and_eq_true] at hb
      have h1 := inB_true.1 hb.1.1
      have h2 := inB_true.1 hb.1.2
      have h3 := cells8_to hb.2
      rw [cells_join] at he
      have hp := all_cellsTo h3
      have h97 : (32 : UInt8) ∉ [by8 (97 + col)] ∧ colS [by8 (97 + col)] = col := by
        rcases (by omega : col = 0 ∨ col = 1 ∨ col = 2) with rfl | rfl | rfl <;> exact ⟨by decide, by rfl⟩
      have hsp : sp 32 t = [by8 (97 + col)] :: L.map wordP := by
        rw [← he]
        refine sp_join (fun y hy => ?_)
        rcases List.mem_cons.1 hy with rfl | hy
        · exact h97.1
        · obtain ⟨z, hz, rfl⟩ := List.mem_map.1 hy
          exact wordP_free (hp z hz)
      unfold sMark at hs
      rw [hsp] at hs
      simp only [List.length_map] at hs
      rw [if_neg (by omega), scs_words hp] at hs
      simp only [h97.2] at hs
      rw [if_neg (by omega)] at hs
      cases hs
    · exact ht he.symm
end Go.Proofs.YtbnhhjjhjjmmjaaDoor
/- The wrap of a card's row: the walk is handed the world's shape and the laid variables. -/
namespace Go.Proofs.YtbnhhjjhjjmmjaaDoor
set_option linter.unusedVariables false
set_option linter.unusedSimpArgs false
set_option maxRecDepth 100000
theorem wrap_both {H : Type} {enc : TypeId × Value → H} {a : Assume} {C : Checked} {os : Os} {f : FuncId} {fn : Func} {s : ChangeSpec} {conds : List PathCond} {apart fresh handsOn again : Bool} {X : World → Array Value → Prop}
    (hX : ∀ (w w' : World) (args : Array Value), w.heap = w'.heap → X w args → X w' args)
    (own : ownKnob C.prog.godebug = none) (started : os.Started) (noInit : C.prog.inits.idxOf? f = none) (hfn : C.prog.funcs[f]? = some fn)
    (witness : ∃ (w : World) (tape : Tape) (i : Input), w.os = os ∧ (w.forCall tape i).Shaped C.prog ∧ i.vars = [] ∧ Input.okWide C.prog (w.forCall tape i) .any w.heap.size f i ∧
      ((s.pre enc C.prog fn conds apart (w.forCall tape i).memory i.args ∧ X (w.forCall tape i).memory i.args) ∧ sizedMet enc C.prog fn (OpenSpec.ofChange s) apart (w.forCall tape i).memory i.args) ∧ a.holds C.prog (lone (Frame.enter C.prog f i.args .normal) [] (w.forCall tape i)))
    (contract : ∀ (W : World) (base : Nat) (args : Array Value) (ds gs : List (DataW H)) (before : List MemPlace),
      (∀ (j : Nat) t v, fn.params[j]? = some t → args[j]? = some v → Value.okWide C.prog W .any base t v) →
      DataW.Whole enc C.prog fn.params.toList s.vars apart W args.toList ds gs before →
      conds.all (PathCond.test C.prog ⟨fn.params.toList, ds, s.plain.varTypes C.prog, gs⟩) = true →
      (DataW.weightsEach C.prog (fn.params.toList ++ s.plain.varTypes C.prog) (ds ++ gs)).all (· ≤ reachBytes) = true → X W args → W.ShapedOpen C.prog →
      Calls C.prog f args W fun e W' => ∃ v, e = .returned v ∧ s.post enc C.prog fn apart fresh handsOn again W args v W') :
    ReturnsInHanded a C os f .any (fun w args => (s.pre enc C.prog fn conds apart w args ∧ X w args) ∧ sizedMet enc C.prog fn (OpenSpec.ofChange s) apart w args) (s.post enc C.prog fn apart fresh handsOn again) := by
  refine returnsInHanded_of_calls own started noInit witness ?_
  intro w tape i _ hsh _ hok hpre hholds
  obtain ⟨_, _, _, fn', hfn', _, _, _, _, hval⟩ := hok
  have e : fn' = fn := Option.some.inj (hfn'.symm.trans hfn)
  subst e
  obtain ⟨⟨⟨ds, gs, before, hw, hc⟩, hx⟩, hz⟩ := hpre
  have hw' := DataW.Whole.of_heap (w' := w.forCall tape i) (by rfl) hw
  refine (contract (w.forCall tape i) w.heap.size i.args ds gs before hval hw' hc (hz.weights hw) (hX _ _ _ (by rfl) hx) hsh).mono fun e W' ⟨v, he, hp⟩ => ?_
  subst he
  exact ChangeSpec.post_blind hp
theorem laid_tail {P : Program} {x : String × DataW Unit} {r : List (String × DataW Unit)} {W : World} (h : laidMet P (x :: r) W) : ∃ ps, DataW.LaidVars P W r ps := by
  obtain ⟨ps, hv, -⟩ := h
  obtain ⟨n, d⟩ := x
  obtain ⟨g', t', cs, fuel, p, q, hg', ht', hvar, hd, hr, _⟩ := hv
  exact ⟨_, hr⟩
theorem vars_tail {P : Program} {x : String × DataW Unit} {r : List (String × DataW Unit)} {W : World} {ps : List MemPlace} (h : DataW.LaidVars P W (x :: r) ps) : ∃ ps, DataW.LaidVars P W r ps := by
  obtain ⟨n, d⟩ := x
  obtain ⟨g', t', cs, fuel, p, q, hg', ht', hvar, hd, hr, _⟩ := h
  exact ⟨_, hr⟩
theorem tab_of_vars {P : Program} {W : World} {name : String} {k : IntKind} {zs : List Int} {rest : List (String × DataW Unit)} {g : Nat} {t e : TypeId} {n : Nat} {ps : List MemPlace}
    (hg : P.globalNamed name = some g) (hty : (P.globals[g]?).map (·.type) = some t) (ht : P.underlying t = some (.array n e)) (he : P.underlying e = some (.int k)) (hce : P.cellsOf e = 1) (hct : P.cellsOf t = n)
    (h : DataW.LaidVars P W ((name, Lib.tabData k zs) :: rest) ps) : Lib.TabIs P W name k zs := by
  obtain ⟨g', t', cs, fuel, p, q, hg', ht', hvar, hd, _, _⟩ := h
  obtain rfl := Option.some.inj (hg.symm.trans hg')
  obtain rfl := Option.some.inj (hty.symm.trans ht')
  unfold Lib.TabIs
  rw [hvar, ← Lib.cells_of_tab ht he hce hct hd]
end Go.Proofs.YtbnhhjjhjjmmjaaDoor
/- A text among the arguments. -/
namespace Go.Proofs.YtbnhhjjhjjmmjaaDoor
open Go.WideShapes Go.ChangeShapes
set_option linter.unusedVariables false
set_option linter.unusedSimpArgs false
set_option maxRecDepth 100000
theorem open_str {H : Type} {enc : TypeId × Value → H} {P : Program} {w : World} {base : Nat} {sp : Nat → Bool} {held : Bool} {r : Reach} {b0 : Nat} {t : TypeId} {v : Value} {d : DataW H} {ps : List MemPlace} (ht : P.underlying t = some .string) (hval : Value.okWide P w r b0 t v) (hd : DataW.Trod enc P w base sp held t v d ps) :
    ∃ s : ByteArray, v = .string s ∧ s.size ≤ maxLen := by
  obtain ⟨s, rfl⟩ := okWide_string ht hval
  obtain ⟨fuel, hf⟩ := hd
  obtain ⟨s', h, hx, hs⟩ := DataW.trod_string ht hf
  simp [Value.cells] at h
  subst h
  exact ⟨s, rfl, hs⟩
end Go.Proofs.YtbnhhjjhjjmmjaaDoor
/- The reference's words and numbers. -/
namespace Go.Proofs.YtbnhhjjhjjmmjaaDoor
open Go.RowKit
set_option linter.unusedVariables false
set_option linter.unusedSimpArgs false
set_option maxRecDepth 100000
attribute [go_sem] tx_list
/-- A byte of a text. -/
def chX (t : TypeId) (s i : Value) : Sem Value := Instr.index t s i
def chR (o : Option UInt8) (w : World) (r : Result Value) : Result Value := match o with | some c => .ok (.int .u8 (c.toNat : Int)) w | none => r
@[go_sem] theorem chR_some (c : UInt8) (w : World) (r : Result Value) : chR (some c) w r = .ok (.int .u8 (c.toNat : Int)) w := rfl
@[go_sem ↓] theorem chr_at (l : List UInt8) (i : Nat) (k : IntKind) (w : World) : (Instr.index 9 (.string (tx l)) (.int k (i : Int))).run Tryd.prog w = chR (l[i]?) w ((chX 9 (.string (tx l)) (.int k (i : Int))).run Tryd.prog w) := by
  unfold chR
  split
  · rename_i c hc
    obtain ⟨hi, he⟩ := List.getElem?_eq_some_iff.1 hc
    rw [run_index_string _ _ _ _ _ Tryd.underlying9, dif_pos ⟨by omega, by rw [tx_size]; omega⟩]
    have : (tx l)[(i : Int).toNat]'(by rw [tx_size, Int.toNat_natCast]; exact hi) = l[i] := rfl
    rw [this, he]
  · rfl
@[go_sem ↓] theorem chr_at0 (l : List UInt8) (k : IntKind) (w : World) : (Instr.index 9 (.string (tx l)) (.int k 0)).run Tryd.prog w = chR (l[0]?) w ((chX 9 (.string (tx l)) (.int k 0)).run Tryd.prog w) := chr_at l 0 k w
/-- A piece of a text. -/
def sgX (t : TypeId) (s : Value) (a b c : Option Value) : Sem Value := Instr.slice t s a b c
@[go_sem ↓] theorem seg_at (l : List UInt8) (a i : Nat) (k k' : IntKind) (w : World) : (Instr.slice 9 (.string (tx l)) (some (.int k (a : Int))) (some (.int k' (i : Int))) none).run Tryd.prog w = selLe i l.length (selLe a i (.ok (.string (tx (seg l a i))) w) ((sgX 9 (.string (tx l)) (some (.int k (a : Int))) (some (.int k' (i : Int))) none).run Tryd.prog w)) ((sgX 9 (.string (tx l)) (some (.int k (a : Int))) (some (.int k' (i : Int))) none).run Tryd.prog w) := by
  unfold selLe
  split
  · split
    · rename_i h1 h2
      rw [run_slice_string w _ _ _ _ _ _ Tryd.underlying9 (by omega) (by omega) (by rw [tx_size]; omega)]
      show Result.ok (Value.string ((tx l).extract a i)) w = _
      unfold tx seg
      rw [ByteArray.extract_mk]
    · rfl
  · rfl
@[go_sem ↓] theorem seg_from (l : List UInt8) (a : Nat) (k : IntKind) (w : World) : (Instr.slice 9 (.string (tx l)) (some (.int k (a : Int))) none none).run Tryd.prog w = selLe a l.length (.ok (.string (tx (l.drop a))) w) ((sgX 9 (.string (tx l)) (some (.int k (a : Int))) none none).run Tryd.prog w) := by
  unfold selLe
  split
  · rename_i h1
    rw [run_slice_string_l w _ _ Tryd.underlying9 _ _ (by omega) (by rw [tx_size]; omega), tx_size]
    show Result.ok (Value.string ((tx l).extract a l.length)) w = _
    unfold tx
    rw [ByteArray.extract_mk, List.take_of_length_le (by rw [List.length_drop]; omega)]
  · rfl
/-- What stands behind the first byte. -/
def rest1 (l : List UInt8) : List UInt8 := l.drop 1
@[go_sem ↓] theorem seg_from1 (l : List UInt8) (k : IntKind) (w : World) : (Instr.slice 9 (.string (tx l)) (some (.int k 1)) none none).run Tryd.prog w = selLe 1 l.length (.ok (.string (tx (rest1 l))) w) ((sgX 9 (.string (tx l)) (some (.int k 1)) none none).run Tryd.prog w) := seg_from l 1 k w
theorem seg_end (l : List UInt8) (a : Nat) : seg l a l.length = l.drop a := by
  unfold seg
  rw [List.take_of_length_le (by rw [List.length_drop]; omega)]
theorem strV_snoc (D : List (List UInt8)) (x : List UInt8) : strV (D ++ [x]) = strV D ++ [.string (tx x)] := by unfold strV; rw [List.map_append]; rfl
set_option maxHeartbeats 8000000 in
theorem l01Split_any (b : UInt8) (l : List UInt8) (hl : l.length ≤ 1048576) (w : World) :
    Calls Tryd.prog 75 #[.string (tx l), .int .u8 (b.toNat : Int)] w fun e w' => ∃ v, e = .returned v ∧ w'.ownsRow w.heap.size 9 1 v (sp b l).length (strV (sp b l)) ∧ Below w.heap.size w w' := by
  obtain ⟨i0, z0, hi0, hz0, hs0, hb0, hc0⟩ := str_info
  have HI := Lib.hid (And.intro hi0 (And.intro hz0 (And.intro hs0 (And.intro hb0 hc0))))
  clear hi0 hz0 hs0 hb0 hc0
  go_enter Tryd.func75, Tryd.ntmps75
  go_wp2
  go_loopw [7, 6, 5] (fun i bg v wr => ∃ (k a : Nat) (D : List (List UInt8)), k ≤ l.length ∧ a ≤ k ∧ D.length ≤ k ∧ i = .int .i64 k ∧ bg = .int .i64 a ∧ wr.ownsRow w.heap.size 9 1 v D.length (strV D) ∧ sp b l = D ++ glue (seg l a k) (sp b (l.drop k)) ∧ Below w.heap.size w wr) (fun i bg v wr => l.length + 1 - (intOf i).toNat)
  case atStart => exact ⟨0, 0, [], by omega, by omega, by simp, rfl, rfl, owns_empty1 _ _, by rw [seg_same, glue_nil (sp_ne _ _)]; rfl, by repeat' (first | with_reducible exact Below.refl _ _ | with_reducible assumption | with_reducible refine Below.drew ?_ | with_reducible refine Below.drewN ?_ _ | with_reducible refine Below.alloc ?_ ?_ _ | with_reducible refine Below.setCell ?_ ?_ _ | with_reducible refine Below.setRow ?_ ?_ _ | with_reducible refine below_step (by assumption) ?_ ?_ | (show (_ : Nat) ≤ _; first | omega | (simp <;> omega)))⟩
  case round =>
    obtain ⟨k, a, D, hk, ha, hD, rfl, rfl, hown, hsp, hb⟩ := hrel
    have hsz := hb.size
    have HO := Lib.hid hown
    have HS := Lib.hid hsp
    clear hown hsp
    by_cases hlt : k < l.length
    · obtain ⟨c, hx⟩ : ∃ c, l[k] = c := ⟨_, rfl⟩
      have hc : l[k]? = some c := by rw [List.getElem?_eq_getElem hlt, hx]
      have hkk : ¬ l.length < k := by omega
      have hak : ¬ k < a := by omega
      have hlt2 : (k : Int) < (l.length : Int) := by omega
      have hw1 : IntKind.i64.wrap ((k : Int) + 1) = ((k + 1 : Nat) : Int) := by rw [IntWalk.i64_in _ (by omega)]; rfl
      by_cases hcb : c = b
      · subst hcb
        have HN := Lib.hid (sp_hit hc (seg l a k))
        have HQ := Lib.hid (strV_snoc D (seg l a k))
        go_wp2_with (at_builtin; refine wpList_append_own _ rfl _ _ 96 rfl w.heap.size 9 i0 z0 1 16 Tryd.underlying96 HI.out.1 HI.out.2.1 HI.out.2.2.1 HI.out.2.2.2.1 HI.out.2.2.2.2 (by decide) _ _ _ rfl (HO.out.alloc _) ⟨wr.heap.size, 0, none⟩ 1 1 [.string (tx (seg l a k))] rfl rfl ?c1 ?c2 ?c3 ?c4 ?c5 ?_)
        case c1 =>
          intro j u hj
          match j, hj with
          | 0, hj => simp at hj; subst hj; simp [Addr.add]
        case c2 => intro u hu; simp at hu; subst hu; rfl
        case c3 => unfold maxLen; omega
        case c4 => omega
        case c5 => simp; omega
        intro v' w2 hown' hgrow _
        have hbg : Below w.heap.size w w2 := below_grown (Below.alloc (by repeat' (first | with_reducible exact Below.refl _ _ | with_reducible assumption | with_reducible refine Below.drew ?_ | with_reducible refine Below.drewN ?_ _ | with_reducible refine Below.alloc ?_ ?_ _ | with_reducible refine Below.setCell ?_ ?_ _ | with_reducible refine Below.setRow ?_ ?_ _ | with_reducible refine below_step (by assumption) ?_ ?_ | (show (_ : Nat) ≤ _; first | omega | (simp <;> omega)))) (by omega) _) hgrow (owns_base HO.out) (by simp; omega)
        have HB := Lib.hid hbg
        rw [← HQ.out] at hown'
        have HW := Lib.hid hown'
        clear hbg hown' hgrow
        go_wp2
        go_roundw
        case rel => first | exact ⟨k + 1, k + 1, D ++ [seg l a k], by omega, by omega, by simp; omega, by go_num, by go_num, by rw [List.length_append]; exact HW.out, by rw [HS.out, HN.out, seg_same, glue_nil (sp_ne _ _)]; simp, HB.out⟩ | ((repeat (with_reducible apply Exists.intro)); refine And.intro ?_ ?_; rotate_left; (focus ((repeat' (with_reducible apply And.intro)) <;> rfl)); exact ⟨k + 1, k + 1, D ++ [seg l a k], by omega, by omega, by simp; omega, by go_num, by go_num, by rw [List.length_append]; exact HW.out, by rw [HS.out, HN.out, seg_same, glue_nil (sp_ne _ _)]; simp, HB.out⟩)
        case measure => simp [intOf]; omega
      · have hcc : ((c.toNat : Int) == (b.toNat : Int)) = false := by
          rw [beq_eq_false_iff_ne]
          intro e
          exact hcb (UInt8.toNat_inj.1 (by omega))
        have hcd : decide ((c.toNat : Int) = (b.toNat : Int)) = false := by
          rw [decide_eq_false_iff_not]
          intro e
          exact hcb (UInt8.toNat_inj.1 (by omega))
        have hce : ¬ c.toNat = b.toNat := fun e => hcb (UInt8.toNat_inj.1 e)
        have HN := Lib.hid (sp_miss hc hcb (seg l a k))
        have HG := Lib.hid (seg_next hc ha)
        go_wp2
        go_roundw
        case rel => first | exact ⟨k + 1, a, D, by omega, by omega, by omega, by go_num, rfl, HO.out, by rw [HS.out, HN.out, HG.out], by repeat' (first | with_reducible exact Below.refl _ _ | with_reducible assumption | with_reducible refine Below.drew ?_ | with_reducible refine Below.drewN ?_ _ | with_reducible refine Below.alloc ?_ ?_ _ | with_reducible refine Below.setCell ?_ ?_ _ | with_reducible refine Below.setRow ?_ ?_ _ | with_reducible refine below_step (by assumption) ?_ ?_ | (show (_ : Nat) ≤ _; first | omega | (simp <;> omega)))⟩ | ((repeat (with_reducible apply Exists.intro)); refine And.intro ?_ ?_; rotate_left; (focus ((repeat' (with_reducible apply And.intro)) <;> rfl)); exact ⟨k + 1, a, D, by omega, by omega, by omega, by go_num, rfl, HO.out, by rw [HS.out, HN.out, HG.out], by repeat' (first | with_reducible exact Below.refl _ _ | with_reducible assumption | with_reducible refine Below.drew ?_ | with_reducible refine Below.drewN ?_ _ | with_reducible refine Below.alloc ?_ ?_ _ | with_reducible refine Below.setCell ?_ ?_ _ | with_reducible refine Below.setRow ?_ ?_ _ | with_reducible refine below_step (by assumption) ?_ ?_ | (show (_ : Nat) ≤ _; first | omega | (simp <;> omega)))⟩)
        case measure => simp [intOf]; omega
    · have hke : k = l.length := by omega
      have hal : ¬ l.length < a := by omega
      subst hke
      have hd : decide ((l.length : Int) < (l.length : Int)) = false := decide_eq_false (by omega)
      have HE := Lib.hid (sp_end b (Nat.le_refl l.length) (seg l a l.length))
      have HQ := Lib.hid (strV_snoc D (l.drop a))
      have HG := Lib.hid (seg_end l a)
      go_wp2_with (at_builtin; refine wpList_append_own _ rfl _ _ 96 rfl w.heap.size 9 i0 z0 1 16 Tryd.underlying96 HI.out.1 HI.out.2.1 HI.out.2.2.1 HI.out.2.2.2.1 HI.out.2.2.2.2 (by decide) _ _ _ rfl (HO.out.alloc _) ⟨wr.heap.size, 0, none⟩ 1 1 [.string (tx (l.drop a))] rfl rfl ?c1 ?c2 ?c3 ?c4 ?c5 ?_)
      case c1 =>
        intro j u hj
        match j, hj with
        | 0, hj => simp at hj; subst hj; simp [Addr.add]
      case c2 => intro u hu; simp at hu; subst hu; rfl
      case c3 => unfold maxLen; omega
      case c4 => omega
      case c5 => simp; omega
      intro v' w2 hown' hgrow _
      have hbg : Below w.heap.size w w2 := below_grown (Below.alloc (by repeat' (first | with_reducible exact Below.refl _ _ | with_reducible assumption | with_reducible refine Below.drew ?_ | with_reducible refine Below.drewN ?_ _ | with_reducible refine Below.alloc ?_ ?_ _ | with_reducible refine Below.setCell ?_ ?_ _ | with_reducible refine Below.setRow ?_ ?_ _ | with_reducible refine below_step (by assumption) ?_ ?_ | (show (_ : Nat) ≤ _; first | omega | (simp <;> omega)))) (by omega) _) hgrow (owns_base HO.out) (by simp; omega)
      rw [← HQ.out] at hown'
      have HB := Lib.hid hbg
      have HW := Lib.hid hown'
      clear hbg hown' hgrow
      go_wp2
      go_ret
      exact ⟨_, rfl, by rw [HS.out, HE.out, HG.out, List.length_append]; exact HW.out, HB.out⟩
theorem digs_at {l : List UInt8} {i n : Nat} {c : UInt8} (h : l[i]? = some c) : digs n (l.drop i) = if c.toNat < 48 ∨ 57 < c.toNat then none else digs (10 * n + (c.toNat - 48)) (l.drop (i + 1)) := by
  obtain ⟨hi, he⟩ := List.getElem?_eq_some_iff.1 h
  rw [List.drop_eq_getElem_cons hi, he, digs]
def numV (l : List UInt8) : Value := match numB l with | some n => .tuple #[.int .i64 (n : Int), .bool true] | none => .tuple #[.int .i64 0, .bool false]
theorem numV_none {l : List UInt8} (h : numB l = none) : numV l = .tuple #[.int .i64 0, .bool false] := by unfold numV; rw [h]
theorem numV_some {l : List UInt8} {n : Nat} (h : numB l = some n) : numV l = .tuple #[.int .i64 (n : Int), .bool true] := by unfold numV; rw [h]
set_option maxHeartbeats 8000000 in
theorem l01Number_any (l : List UInt8) (hl : l.length ≤ 1048576) (w : World) :
    Calls Tryd.prog 76 #[.string (tx l)] w fun e w' => e = .returned (numV l) ∧ Below w.heap.size w w' := by
  by_cases h0 : l = []
  · subst h0
    rw [numV_none rfl]
    go_enter Tryd.func76, Tryd.ntmps76
    go_wp2
    refine bodyPost_ret (v := (.tuple #[.int .i64 0, .bool false])) (res_tt rfl rfl rfl) rfl ⟨rfl, by repeat' (first | with_reducible exact Below.refl _ _ | with_reducible assumption | with_reducible refine Below.drew ?_ | with_reducible refine Below.drewN ?_ _ | with_reducible refine Below.alloc ?_ ?_ _ | with_reducible refine Below.setCell ?_ ?_ _ | with_reducible refine Below.setRow ?_ ?_ _ | with_reducible refine below_step (by assumption) ?_ ?_ | (show (_ : Nat) ≤ _; first | omega | (simp <;> omega)))⟩
  have hp : 0 < l.length := List.length_pos_iff.2 h0
  have he2 : (l == []) = false := by cases l <;> first | (exact absurd rfl h0) | rfl
  by_cases h9 : 9 < l.length
  · have hd : (9 : Int) < (l.length : Int) := by omega
    have hd3 : decide (9 < l.length) = true := decide_eq_true h9
    rw [numV_none (show numB l = none by unfold numB; rw [if_pos (.inr (.inl h9))])]
    go_enter Tryd.func76, Tryd.ntmps76
    go_wp2
    refine bodyPost_ret (v := (.tuple #[.int .i64 0, .bool false])) (res_tt rfl rfl rfl) rfl ⟨rfl, by repeat' (first | with_reducible exact Below.refl _ _ | with_reducible assumption | with_reducible refine Below.drew ?_ | with_reducible refine Below.drewN ?_ _ | with_reducible refine Below.alloc ?_ ?_ _ | with_reducible refine Below.setCell ?_ ?_ _ | with_reducible refine Below.setRow ?_ ?_ _ | with_reducible refine below_step (by assumption) ?_ ?_ | (show (_ : Nat) ≤ _; first | omega | (simp <;> omega)))⟩
  have hd9 : decide ((9 : Int) < (l.length : Int)) = false := decide_eq_false (by omega)
  have hd9' : ¬ (9 : Int) < (l.length : Int) := by omega
  obtain ⟨c, hx⟩ : ∃ c, l[0] = c := ⟨_, rfl⟩
  have hc : l[0]? = some c := by rw [List.getElem?_eq_getElem hp, hx]
  by_cases hz : c = 48 ∧ 1 < l.length
  · obtain ⟨rfl, h1⟩ := hz
    have hd1 : (1 : Int) < (l.length : Int) := by omega
    have hd3 : decide (1 < l.length) = true := decide_eq_true h1
    rw [numV_none (show numB l = none by unfold numB; rw [if_pos (.inr (.inr ⟨hc, h1⟩))])]
    go_enter Tryd.func76, Tryd.ntmps76
    go_wp2
    refine bodyPost_ret (v := (.tuple #[.int .i64 0, .bool false])) (res_tt rfl rfl rfl) rfl ⟨rfl, by repeat' (first | with_reducible exact Below.refl _ _ | with_reducible assumption | with_reducible refine Below.drew ?_ | with_reducible refine Below.drewN ?_ _ | with_reducible refine Below.alloc ?_ ?_ _ | with_reducible refine Below.setCell ?_ ?_ _ | with_reducible refine Below.setRow ?_ ?_ _ | with_reducible refine below_step (by assumption) ?_ ?_ | (show (_ : Nat) ≤ _; first | omega | (simp <;> omega)))⟩
  have HNB := Lib.hid (show numB l = digs 0 l by unfold numB; exact if_neg (fun h => h.elim h0 (fun h => h.elim h9 (fun h => hz ⟨by have := h.1; rw [hc] at this; exact Option.some.inj this, h.2⟩))))
  have HV := Lib.hid (fun n (h : digs 0 l = some n) => numV_some (HNB.out.trans h))
  have HU := Lib.hid (fun (h : digs 0 l = none) => numV_none (HNB.out.trans h))
  go_enter Tryd.func76, Tryd.ntmps76
  by_cases hc48 : c = 48
  · have h1 : ¬ 1 < l.length := fun h => hz ⟨hc48, h⟩
    subst hc48
    have h11 : l.length = 1 := by omega
    go_wp2
    go_loopw [5, 4] (fun i nv wr => ∃ (k n : Nat), k ≤ l.length ∧ i = .int .i64 k ∧ nv = .int .i64 n ∧ n < 10 ^ k ∧ digs 0 l = digs n (l.drop k) ∧ Below w.heap.size w wr) (fun i nv wr => l.length + 1 - (intOf i).toNat)
    case atStart => exact ⟨0, 0, by omega, rfl, rfl, by decide, rfl, by repeat' (first | with_reducible exact Below.refl _ _ | with_reducible assumption | with_reducible refine Below.drew ?_ | with_reducible refine Below.drewN ?_ _ | with_reducible refine Below.alloc ?_ ?_ _ | with_reducible refine Below.setCell ?_ ?_ _ | with_reducible refine Below.setRow ?_ ?_ _ | with_reducible refine below_step (by assumption) ?_ ?_ | (show (_ : Nat) ≤ _; first | omega | (simp <;> omega)))⟩
    case round =>
      obtain ⟨k, n, hk, rfl, rfl, hn, hdg, hb⟩ := hrel
      have HD := Lib.hid hdg
      clear hdg hx
      by_cases hlt : k < l.length
      · have hp8 : 10 ^ k ≤ 10 ^ 8 := Nat.pow_le_pow_right (by omega) (by omega)
        have hps : 10 ^ (k + 1) = 10 ^ k * 10 := Nat.pow_succ ..
        have hp8' : (10 : Nat) ^ 8 = 100000000 := rfl
        rw [hp8'] at hp8
        have hlt2 : (k : Int) < (l.length : Int) := by omega
        obtain ⟨e, hx⟩ : ∃ e, l[k] = e := ⟨_, rfl⟩
        have hq : l[k]? = some e := by rw [List.getElem?_eq_getElem hlt, hx]
        have hw1 : IntKind.i64.wrap ((k : Int) + 1) = ((k + 1 : Nat) : Int) := by rw [IntWalk.i64_in _ (by omega)]; rfl
        have HQ := Lib.hid (digs_at (n := n) hq)
        clear hc
        have he8 : e.toNat < 256 := e.toNat_lt
        generalize 10 ^ k = pk at *
        by_cases h1 : e.toNat < 48
        · have h1' : (e.toNat : Int) < 48 := by omega
          have HE := Lib.hid (HU.out (by rw [HD.out, HQ.out, if_pos (.inl h1)]))
          go_wp2
          refine bodyPost_ret (v := (.tuple #[.int .i64 0, .bool false])) (res_tt rfl rfl rfl) rfl ⟨by rw [HE.out], by repeat' (first | with_reducible exact Below.refl _ _ | with_reducible assumption | with_reducible refine Below.drew ?_ | with_reducible refine Below.drewN ?_ _ | with_reducible refine Below.alloc ?_ ?_ _ | with_reducible refine Below.setCell ?_ ?_ _ | with_reducible refine Below.setRow ?_ ?_ _ | with_reducible refine below_step (by assumption) ?_ ?_ | (show (_ : Nat) ≤ _; first | omega | (simp <;> omega)))⟩
        · have h1' : ¬ (e.toNat : Int) < 48 := by omega
          by_cases h2 : 57 < e.toNat
          · have h2' : (57 : Int) < (e.toNat : Int) := by omega
            have HE := Lib.hid (HU.out (by rw [HD.out, HQ.out, if_pos (.inr h2)]))
            go_wp2
            refine bodyPost_ret (v := (.tuple #[.int .i64 0, .bool false])) (res_tt rfl rfl rfl) rfl ⟨by rw [HE.out], by repeat' (first | with_reducible exact Below.refl _ _ | with_reducible assumption | with_reducible refine Below.drew ?_ | with_reducible refine Below.drewN ?_ _ | with_reducible refine Below.alloc ?_ ?_ _ | with_reducible refine Below.setCell ?_ ?_ _ | with_reducible refine Below.setRow ?_ ?_ _ | with_reducible refine below_step (by assumption) ?_ ?_ | (show (_ : Nat) ≤ _; first | omega | (simp <;> omega)))⟩
          · have h2' : ¬ (57 : Int) < (e.toNat : Int) := by omega
            have HN := Lib.hid (show digs n (l.drop k) = digs (10 * n + (e.toNat - 48)) (l.drop (k + 1)) by rw [HQ.out, if_neg (by omega)])
            have hw2 : IntKind.i64.wrap (10 * (n : Int)) = 10 * (n : Int) := IntWalk.i64_in _ (by omega)
            have hw3 : IntKind.u8.wrap ((e.toNat : Int) - 48) = (e.toNat : Int) - 48 := by simp only [IntKind.wrap, IntKind.bits, IntKind.signed]; simp; omega
            have hw4 : IntKind.i64.wrap ((e.toNat : Int) - 48) = (e.toNat : Int) - 48 := IntWalk.i64_in _ (by omega)
            have hw5 : IntKind.i64.wrap (10 * (n : Int) + ((e.toNat : Int) - 48)) = ((10 * n + (e.toNat - 48) : Nat) : Int) := by rw [IntWalk.i64_in _ (by omega)]; omega
            go_wp2
            go_roundw
            case rel => first | exact ⟨k + 1, 10 * n + (e.toNat - 48), by omega, by go_num, by go_num, by omega, by rw [HD.out, HN.out], by repeat' (first | with_reducible exact Below.refl _ _ | with_reducible assumption | with_reducible refine Below.drew ?_ | with_reducible refine Below.drewN ?_ _ | with_reducible refine Below.alloc ?_ ?_ _ | with_reducible refine Below.setCell ?_ ?_ _ | with_reducible refine Below.setRow ?_ ?_ _ | with_reducible refine below_step (by assumption) ?_ ?_ | (show (_ : Nat) ≤ _; first | omega | (simp <;> omega)))⟩ | ((repeat (with_reducible apply Exists.intro)); refine And.intro ?_ ?_; rotate_left; (focus ((repeat' (with_reducible apply And.intro)) <;> rfl)); exact ⟨k + 1, 10 * n + (e.toNat - 48), by omega, by go_num, by go_num, by omega, by rw [HD.out, HN.out], by repeat' (first | with_reducible exact Below.refl _ _ | with_reducible assumption | with_reducible refine Below.drew ?_ | with_reducible refine Below.drewN ?_ _ | with_reducible refine Below.alloc ?_ ?_ _ | with_reducible refine Below.setCell ?_ ?_ _ | with_reducible refine Below.setRow ?_ ?_ _ | with_reducible refine below_step (by assumption) ?_ ?_ | (show (_ : Nat) ≤ _; first | omega | (simp <;> omega)))⟩)
            case measure => simp [intOf]; omega
      · have hke : k = l.length := by omega
        subst hke
        have hd : decide ((l.length : Int) < (l.length : Int)) = false := decide_eq_false (by omega)
        have HE := Lib.hid (HV.out n (by rw [HD.out, List.drop_length]; rfl))
        go_wp2
        refine bodyPost_ret (v := (.tuple #[.int .i64 (n : Int), .bool true])) (res_tt rfl rfl rfl) rfl ⟨by rw [HE.out], by repeat' (first | with_reducible exact Below.refl _ _ | with_reducible assumption | with_reducible refine Below.drew ?_ | with_reducible refine Below.drewN ?_ _ | with_reducible refine Below.alloc ?_ ?_ _ | with_reducible refine Below.setCell ?_ ?_ _ | with_reducible refine Below.setRow ?_ ?_ _ | with_reducible refine below_step (by assumption) ?_ ?_ | (show (_ : Nat) ≤ _; first | omega | (simp <;> omega)))⟩
  · have hcn : ¬ c.toNat = 48 := fun h => hc48 (UInt8.toNat_inj.1 h)
    have hcz : ((c.toNat : Int) == 48) = false := by rw [beq_eq_false_iff_ne]; omega
    go_wp2
    go_loopw [5, 4] (fun i nv wr => ∃ (k n : Nat), k ≤ l.length ∧ i = .int .i64 k ∧ nv = .int .i64 n ∧ n < 10 ^ k ∧ digs 0 l = digs n (l.drop k) ∧ Below w.heap.size w wr) (fun i nv wr => l.length + 1 - (intOf i).toNat)
    case atStart => exact ⟨0, 0, by omega, rfl, rfl, by decide, rfl, by repeat' (first | with_reducible exact Below.refl _ _ | with_reducible assumption | with_reducible refine Below.drew ?_ | with_reducible refine Below.drewN ?_ _ | with_reducible refine Below.alloc ?_ ?_ _ | with_reducible refine Below.setCell ?_ ?_ _ | with_reducible refine Below.setRow ?_ ?_ _ | with_reducible refine below_step (by assumption) ?_ ?_ | (show (_ : Nat) ≤ _; first | omega | (simp <;> omega)))⟩
    case round =>
      obtain ⟨k, n, hk, rfl, rfl, hn, hdg, hb⟩ := hrel
      have HD := Lib.hid hdg
      clear hdg hx
      by_cases hlt : k < l.length
      · have hp8 : 10 ^ k ≤ 10 ^ 8 := Nat.pow_le_pow_right (by omega) (by omega)
        have hps : 10 ^ (k + 1) = 10 ^ k * 10 := Nat.pow_succ ..
        have hp8' : (10 : Nat) ^ 8 = 100000000 := rfl
        rw [hp8'] at hp8
        have hlt2 : (k : Int) < (l.length : Int) := by omega
        obtain ⟨e, hx⟩ : ∃ e, l[k] = e := ⟨_, rfl⟩
        have hq : l[k]? = some e := by rw [List.getElem?_eq_getElem hlt, hx]
        have hw1 : IntKind.i64.wrap ((k : Int) + 1) = ((k + 1 : Nat) : Int) := by rw [IntWalk.i64_in _ (by omega)]; rfl
        have HQ := Lib.hid (digs_at (n := n) hq)
        clear hc
        have he8 : e.toNat < 256 := e.toNat_lt
        generalize 10 ^ k = pk at *
        by_cases h1 : e.toNat < 48
        · have h1' : (e.toNat : Int) < 48 := by omega
          have HE := Lib.hid (HU.out (by rw [HD.out, HQ.out, if_pos (.inl h1)]))
          go_wp2
          refine bodyPost_ret (v := (.tuple #[.int .i64 0, .bool false])) (res_tt rfl rfl rfl) rfl ⟨by rw [HE.out], by repeat' (first | with_reducible exact Below.refl _ _ | with_reducible assumption | with_reducible refine Below.drew ?_ | with_reducible refine Below.drewN ?_ _ | with_reducible refine Below.alloc ?_ ?_ _ | with_reducible refine Below.setCell ?_ ?_ _ | with_reducible refine Below.setRow ?_ ?_ _ | with_reducible refine below_step (by assumption) ?_ ?_ | (show (_ : Nat) ≤ _; first | omega | (simp <;> omega)))⟩
        · have h1' : ¬ (e.toNat : Int) < 48 := by omega
          by_cases h2 : 57 < e.toNat
          · have h2' : (57 : Int) < (e.toNat : Int) := by omega
            have HE := Lib.hid (HU.out (by rw [HD.out, HQ.out, if_pos (.inr h2)]))
            go_wp2
            refine bodyPost_ret (v := (.tuple #[.int .i64 0, .bool false])) (res_tt rfl rfl rfl) rfl ⟨by rw [HE.out], by repeat' (first | with_reducible exact Below.refl _ _ | with_reducible assumption | with_reducible refine Below.drew ?_ | with_reducible refine Below.drewN ?_ _ | with_reducible refine Below.alloc ?_ ?_ _ | with_reducible refine Below.setCell ?_ ?_ _ | with_reducible refine Below.setRow ?_ ?_ _ | with_reducible refine below_step (by assumption) ?_ ?_ | (show (_ : Nat) ≤ _; first | omega | (simp <;> omega)))⟩
          · have h2' : ¬ (57 : Int) < (e.toNat : Int) := by omega
            have HN := Lib.hid (show digs n (l.drop k) = digs (10 * n + (e.toNat - 48)) (l.drop (k + 1)) by rw [HQ.out, if_neg (by omega)])
            have hw2 : IntKind.i64.wrap (10 * (n : Int)) = 10 * (n : Int) := IntWalk.i64_in _ (by omega)
            have hw3 : IntKind.u8.wrap ((e.toNat : Int) - 48) = (e.toNat : Int) - 48 := by simp only [IntKind.wrap, IntKind.bits, IntKind.signed]; simp; omega
            have hw4 : IntKind.i64.wrap ((e.toNat : Int) - 48) = (e.toNat : Int) - 48 := IntWalk.i64_in _ (by omega)
            have hw5 : IntKind.i64.wrap (10 * (n : Int) + ((e.toNat : Int) - 48)) = ((10 * n + (e.toNat - 48) : Nat) : Int) := by rw [IntWalk.i64_in _ (by omega)]; omega
            go_wp2
            go_roundw
            case rel => first | exact ⟨k + 1, 10 * n + (e.toNat - 48), by omega, by go_num, by go_num, by omega, by rw [HD.out, HN.out], by repeat' (first | with_reducible exact Below.refl _ _ | with_reducible assumption | with_reducible refine Below.drew ?_ | with_reducible refine Below.drewN ?_ _ | with_reducible refine Below.alloc ?_ ?_ _ | with_reducible refine Below.setCell ?_ ?_ _ | with_reducible refine Below.setRow ?_ ?_ _ | with_reducible refine below_step (by assumption) ?_ ?_ | (show (_ : Nat) ≤ _; first | omega | (simp <;> omega)))⟩ | ((repeat (with_reducible apply Exists.intro)); refine And.intro ?_ ?_; rotate_left; (focus ((repeat' (with_reducible apply And.intro)) <;> rfl)); exact ⟨k + 1, 10 * n + (e.toNat - 48), by omega, by go_num, by go_num, by omega, by rw [HD.out, HN.out], by repeat' (first | with_reducible exact Below.refl _ _ | with_reducible assumption | with_reducible refine Below.drew ?_ | with_reducible refine Below.drewN ?_ _ | with_reducible refine Below.alloc ?_ ?_ _ | with_reducible refine Below.setCell ?_ ?_ _ | with_reducible refine Below.setRow ?_ ?_ _ | with_reducible refine below_step (by assumption) ?_ ?_ | (show (_ : Nat) ≤ _; first | omega | (simp <;> omega)))⟩)
            case measure => simp [intOf]; omega
      · have hke : k = l.length := by omega
        subst hke
        have hd : decide ((l.length : Int) < (l.length : Int)) = false := decide_eq_false (by omega)
        have HE := Lib.hid (HV.out n (by rw [HD.out, List.drop_length]; rfl))
        go_wp2
        refine bodyPost_ret (v := (.tuple #[.int .i64 (n : Int), .bool true])) (res_tt rfl rfl rfl) rfl ⟨by rw [HE.out], by repeat' (first | with_reducible exact Below.refl _ _ | with_reducible assumption | with_reducible refine Below.drew ?_ | with_reducible refine Below.drewN ?_ _ | with_reducible refine Below.alloc ?_ ?_ _ | with_reducible refine Below.setCell ?_ ?_ _ | with_reducible refine Below.setRow ?_ ?_ _ | with_reducible refine below_step (by assumption) ?_ ?_ | (show (_ : Nat) ≤ _; first | omega | (simp <;> omega)))⟩
end Go.Proofs.YtbnhhjjhjjmmjaaDoor
/- What the program's readers lean on: Cut, Split, ParseInt in a world where the laid variables hold. -/
namespace Go.Proofs.YtbnhhjjhjjmmjaaDoor
open Go.RowKit Go.Sort
set_option linter.unusedVariables false
set_option linter.unusedSimpArgs false
set_option maxRecDepth 100000
theorem var_below {P : Program} {n : String} {cs : Array Value} {w w' : World} (h : w.var? P n = some cs) (hb : Below w.heap.size w w') : w'.var? P n = some cs := by
  unfold World.var? at h ⊢
  cases hg : P.globalNamed n with
  | none => rw [hg] at h; cases h
  | some g =>
    rw [hg] at h
    simp only [Option.bind_some] at h ⊢
    have hlt : g < w.heap.size := by
      rcases Nat.lt_or_ge g w.heap.size with h' | h'
      · exact h'
      · rw [Array.getElem?_eq_none h'] at h; cases h
    rw [hb.block g hlt]
    exact h
/-- What a reader leans on. -/
structure RdW (w : World) : Prop where
  max : ∃ m, w.cell? ⟨0, 0, none⟩ = some (.int .i64 m)
  syn : ∃ tp p, w.var? Tryd.prog "strconv.ErrSyntax" = some #[.iface tp p]
  ran : ∃ tp p, w.var? Tryd.prog "strconv.ErrRange" = some #[.iface tp p]
theorem RdW.below {w w' : World} (h : RdW w) (hb : Below w.heap.size w w') : RdW w' := by
  obtain ⟨⟨m, hm⟩, ⟨t1, p1, h1⟩, ⟨t2, p2, h2⟩⟩ := h
  refine ⟨⟨m, ?_⟩, ⟨t1, p1, var_below h1 hb⟩, ⟨t2, p2, var_below h2 hb⟩⟩
  unfold World.cell? at hm ⊢
  have hlt : 0 < w.heap.size := by
    rcases Nat.lt_or_ge 0 w.heap.size with h' | h'
    · exact h'
    · simp [Array.getElem?_eq_none h'] at hm
  rw [hb.block _ hlt]
  exact hm
theorem row_err (u : TypeId) (h : Tryd.prog.typeName? 3 u = some "*errors.errorString") : u = 193 :=
  typeName_ptr_named (nm := "errors.errorString") (by rw [show "*" ++ "errors.errorString" = "*errors.errorString" by decide]; kernel_rfl) (by kernel_rfl) (by decide) u (by rw [show "*" ++ "errors.errorString" = "*errors.errorString" by decide]; exact h)
theorem RdW.of {W : World} (hSh : W.ShapedOpen Tryd.prog) {r1 r2 : List (String × DataW Unit)} {x1 x2 : List UInt8}
    (h1 : laidMet Tryd.prog (("strconv.ErrSyntax", .iface "*errors.errorString" (.ptr (.agg [.lit (.string x1)]))) :: r1) W) (h2 : laidMet Tryd.prog (("strconv.ErrRange", .iface "*errors.errorString" (.ptr (.agg [.lit (.string x2)]))) :: r2) W) : RdW W := by
  refine ⟨?_, ?_, ?_⟩
  · exact cell_of_shapedOpen_int (P := Tryd.prog) (g := 0) (t := 3) (zero := #[.int .i64 0]) hSh (of_decide_eq_true (by kernel_rfl)) (by kernel_rfl) rfl (by kernel_rfl) (by kernel_rfl) Tryd.underlying3
  · obtain ⟨a0, sa, hva, _, _, _⟩ := laid_sentinel h1 (g := 1) (by kernel_rfl) (by kernel_rfl) Tryd.underlying119 row_err Tryd.underlying193 Tryd.underlying195 rfl rfl Tryd.underlying9 (by kernel_rfl) (by kernel_rfl)
    exact ⟨_, _, hva⟩
  · obtain ⟨a0, sa, hva, _, _, _⟩ := laid_sentinel h2 (g := 2) (by kernel_rfl) (by kernel_rfl) Tryd.underlying119 row_err Tryd.underlying193 Tryd.underlying195 rfl rfl Tryd.underlying9 (by kernel_rfl) (by kernel_rfl)
    exact ⟨_, _, hva⟩
theorem below_drewN (w : World) (n : Nat) : Below w.heap.size w (w.drewN n) := by repeat' (first | with_reducible exact Below.refl _ _ | with_reducible assumption | with_reducible refine Below.drew ?_ | with_reducible refine Below.drewN ?_ _ | with_reducible refine Below.alloc ?_ ?_ _ | with_reducible refine Below.setCell ?_ ?_ _ | with_reducible refine Below.setRow ?_ ?_ _ | with_reducible refine below_step (by assumption) ?_ ?_ | (show (_ : Nat) ≤ _; first | omega | (simp <;> omega)))
theorem cut_any (b : UInt8) (l : List UInt8) (hl : l.length ≤ 1048576) (w : World) (h : RdW w) :
    Calls Tryd.prog 78 #[.string (tx l), .string (tx [b])] w fun e w' => ∃ ok : Bool, e = .returned (.tuple #[.string (tx (cut1 b l)), .string (tx (cut2 b l)), .bool ok]) ∧ Below w.heap.size w w' := by
  obtain ⟨m, hm⟩ := h.max
  refine (Tryd.strings_Cut (tx l) (tx [b]) m w (by rw [tx_size]; omega) hm).mono fun e w' hq => ?_
  obtain ⟨he, n, rfl⟩ := hq
  exact ⟨_, he, below_drewN w n⟩
theorem below_bytes (w : World) (e : TypeId) (s : ByteArray) : Below w.heap.size w (Lib.bytesWorld w e s) :=
  ⟨rfl, rfl, rfl, by rw [Lib.bytesWorld_size]; omega, fun b hb => Lib.bytesWorld_at_old w e s b hb⟩
theorem parse8_any (l : List UInt8) (hl : l.length ≤ 1048576) (w : World) (h : RdW w) :
    Calls Tryd.prog 79 #[.string (tx l), .int .i64 10, .int .i64 8] w fun e w' => ∃ er, e = .returned (.tuple #[.int .i64 (pi8 l), er]) ∧ Below w.heap.size w w' := by
  have hsz : (tx l).size ≤ 1048576 := by rw [tx_size]; exact hl
  cases hp : Lib.parseIntB 8 l with
  | ok v =>
    have e1 : pi8 l = v := by unfold pi8; rw [hp]
    rw [e1]
    refine (Tryd.strconv_ParseInt_10_at8_ok (tx l) (by omega) v hp w).mono fun e w' hq => ?_
    obtain ⟨he, rfl | ⟨t, rfl⟩⟩ := hq
    · exact ⟨_, he, by repeat' (first | with_reducible exact Below.refl _ _ | with_reducible assumption | with_reducible refine Below.drew ?_ | with_reducible refine Below.drewN ?_ _ | with_reducible refine Below.alloc ?_ ?_ _ | with_reducible refine Below.setCell ?_ ?_ _ | with_reducible refine Below.setRow ?_ ?_ _ | with_reducible refine below_step (by assumption) ?_ ?_ | (show (_ : Nat) ≤ _; first | omega | (simp <;> omega)))⟩
    · exact ⟨_, he, below_bytes _ _ _⟩
  | «syntax» =>
    have e1 : pi8 l = 0 := by unfold pi8; rw [hp]
    obtain ⟨tp, p, hv⟩ := h.syn
    rw [e1]
    refine (Tryd.strconv_ParseInt_10_at8_syntax_var (tx l) (by omega) hp tp p w hv).mono fun e w' hq => ?_
    obtain ⟨N, he, _, _, hb⟩ := hq
    exact ⟨_, he, hb⟩
  | range =>
    have e1 : pi8 l = Lib.intSat 8 l := by unfold pi8; rw [hp]
    obtain ⟨tp, p, hv⟩ := h.ran
    rw [e1]
    refine (Tryd.strconv_ParseInt_10_at8_range_var (tx l) (by omega) hp tp p w hv).mono fun e w' hq => ?_
    obtain ⟨N, he, _, _, hb⟩ := hq
    exact ⟨_, he, hb⟩
theorem split_any (b : UInt8) (l : List UInt8) (hl : l.length ≤ 1048576) (w : World) (h : RdW w) :
    Calls Tryd.prog 82 #[.string (tx l), .string (tx [b])] w fun e w' => e = .returned (.slice (some ⟨w.heap.size, 0, none⟩) (sp b l).length (sp b l).length) ∧ w' = w.alloc (.cells (strV (sp b l)).toArray 9) := by
  obtain ⟨m, hm⟩ := h.max
  refine (Tryd.strings_Split (tx l) (tx [b]) m w (by rw [tx_size]; omega) hm (by rw [tx_size]; exact Nat.le_refl 1)).mono fun e w' hq => ?_
  obtain ⟨he, rfl⟩ := hq
  rw [count_is] at he
  refine ⟨he, ?_⟩
  rw [split_is, List.map_map]; rfl
end Go.Proofs.YtbnhhjjhjjmmjaaDoor
/- Folds read from a text: the program. -/
namespace Go.Proofs.YtbnhhjjhjjmmjaaDoor
open Go.RowKit Go.Sort
set_option linter.unusedVariables false
set_option linter.unusedSimpArgs false
set_option maxRecDepth 100000
theorem owns_emptyF (w : World) (e : TypeId) : (w.alloc (.cells #[] e)).ownsRow w.heap.size e 3 (.slice (some ⟨w.heap.size, 0, none⟩) 0 0) 0 [] :=
  ⟨rfl, .inr ⟨w.heap.size, 0, #[], rfl, Nat.le_refl _, by unfold World.alloc; exact Array.getElem?_push_size, Nat.le_refl _, by unfold maxLen; omega, rfl, rfl⟩⟩
def fdsL (L : List Fd) : List Value := L.flatMap fun x => [.int .i8 x.a, .bool x.d, .int .i8 x.p]
theorem fdsL_snoc (L : List Fd) (x : Fd) : fdsL (L ++ [x]) = fdsL L ++ [.int .i8 x.a, .bool x.d, .int .i8 x.p] := by unfold fdsL; rw [List.flatMap_append]; rfl
theorem fdsL_len : ∀ L, (fdsL L).length = L.length * 3
  | [] => rfl
  | x :: r => by
    show ([Value.int .i8 x.a, .bool x.d, .int .i8 x.p] ++ fdsL r).length = _
    rw [List.length_append, fdsL_len r]; simp; omega
theorem fdsL_at : ∀ (L : List Fd) (k : Nat), k < L.length → ∀ j, j < 3 → (fdsL L)[k * 3 + j]? = some (fdV (fnOf L) k j)
  | x :: r, 0, _, j, hj => by
    match j, hj with
    | 0, _ => rfl
    | 1, _ => rfl
    | 2, _ => rfl
  | x :: r, k + 1, hk, j, hj => by
    have h := fdsL_at r k (by simp at hk; omega) j hj
    have e : fdsL (x :: r) = [.int .i8 x.a, .bool x.d, .int .i8 x.p] ++ fdsL r := rfl
    rw [e, List.getElem?_append_right (by simp; omega), show (k + 1) * 3 + j - [Value.int .i8 x.a, .bool x.d, .int .i8 x.p].length = k * 3 + j by simp; omega, h]
    rfl
theorem owns_folds {w : World} {base : Nat} {e : TypeId} {v : Value} {L : List Fd} (h : w.ownsRow base e 3 v L.length (fdsL L)) : OwnV 3 w base v L.length (fdV (fnOf L)) := OwnV.of h (fdsL_at L)
theorem ifs_snoc : ∀ (l : List (List UInt8)) (x : List UInt8), ifs (l ++ [x]) = ifs l ++ (if x = [] then [] else [ifw x])
  | [], x => by show ifs [x] = _; unfold ifs; split <;> rfl
  | y :: r, x => by
    rw [List.cons_append]
    unfold ifs
    rw [ifs_snoc r x]
    split <;> rfl
theorem ifs_take {W : List (List UInt8)} {k : Nat} {x : List UInt8} (h : W[k]? = some x) : ifs (W.take (k + 1)) = ifs (W.take k) ++ (if x = [] then [] else [ifw x]) := by
  rw [List.take_add_one, h]; exact ifs_snoc _ _
theorem ifs_tail : ∀ (b : UInt8) (r : List (List UInt8)), (ifs r).length ≤ (Lib.joinTail [b] r).length
  | _, [] => Nat.zero_le _
  | b, x :: r => by
    have := ifs_tail b r
    have e : Lib.joinTail [b] (x :: r) = ([b] ++ x) ++ Lib.joinTail [b] r := by simp [Lib.joinTail]
    rw [e, List.length_append, List.length_append]
    unfold ifs
    split <;> simp <;> omega
theorem ifs_le (b : UInt8) (l : List UInt8) : (ifs (sp b l)).length ≤ l.length := by
  have hj := join_sp b l
  cases hs : sp b l with
  | nil => exact Nat.zero_le _
  | cons x r =>
    rw [hs, Lib.join_cons] at hj
    rw [← hj, List.length_append]
    have := ifs_tail b r
    unfold ifs
    split
    · omega
    · rename_i hx
      have := List.length_pos_iff.2 hx
      simp; omega
theorem wrap8_bd (n : Int) : -128 ≤ IntKind.i8.wrap n ∧ IntKind.i8.wrap n ≤ 127 := by simp only [IntKind.wrap, IntKind.bits, IntKind.signed]; simp; omega
theorem ifs_in : ∀ {l : List (List UInt8)}, ∀ x ∈ ifs l, FdIn x
  | [], x, h => by cases h
  | y :: r, x, h => by
    unfold ifs at h
    split at h
    · exact ifs_in x h
    · rcases List.mem_cons.1 h with rfl | h
      · exact ⟨wrap8_bd _, wrap8_bd _⟩
      · exact ifs_in x h
theorem fnOf_in {L : List Fd} (h : ∀ x ∈ L, FdIn x) : ∀ k, k < L.length → FdIn (fnOf L k) := fun k hk => by rw [fnOf_at hk]; exact h _ (List.getElem_mem hk)
/-- What both readers give. -/
def rdL (l : List UInt8) : List Fd := (sFolds l).getD []
def rdC (l : List UInt8) : Int := if (sFolds l).isSome then 0 else 5
theorem rd_some {l : List UInt8} {L : List Fd} (h : sFolds l = some L) : rdL l = L ∧ rdC l = 0 := by unfold rdL rdC; rw [h]; exact ⟨rfl, rfl⟩
theorem rd_none {l : List UInt8} (h : sFolds l = none) : rdL l = [] ∧ rdC l = 5 := by unfold rdL rdC; rw [h]; exact ⟨rfl, rfl⟩
theorem strV_at {W : List (List UInt8)} {k : Nat} {x : List UInt8} (h : W[k]? = some x) : (strV W).toArray[k]? = some (.string (tx x)) := by
  unfold strV
  rw [List.getElem?_toArray, List.getElem?_map, h]; rfl
theorem seg_le {b : UInt8} {l x : List UInt8} (h : x ∈ sp b l) : x.length ≤ l.length := by
  have hj := join_sp b l
  have key : ∀ (r : List (List UInt8)), x ∈ r → x.length ≤ (Lib.joinTail [b] r).length := by
    intro r
    induction r with
    | nil => intro h; cases h
    | cons y r ih =>
      intro h
      have e : Lib.joinTail [b] (y :: r) = ([b] ++ y) ++ Lib.joinTail [b] r := by simp [Lib.joinTail]
      rw [e, List.length_append, List.length_append]
      rcases List.mem_cons.1 h with rfl | h
      · omega
      · have := ih h; omega
  cases hs : sp b l with
  | nil => rw [hs] at h; cases h
  | cons y r =>
    rw [hs] at h
    rw [hs, Lib.join_cons] at hj
    rw [← hj, List.length_append]
    rcases List.mem_cons.1 h with rfl | h
    · omega
    · have := key r h; omega
set_option maxHeartbeats 8000000 in
theorem iReadFolds_any (l : List UInt8) (hl : l.length ≤ 1048576) (w : World) (h : RdW w) :
    Calls Tryd.prog 39 #[.string (tx l)] w fun e w' => ∃ v, e = .returned (.tuple #[v, .int .i64 (rdC l)]) ∧ OwnV 3 w' w.heap.size v (rdL l).length (fdV (fnOf (rdL l))) ∧ Below w.heap.size w w' := by
  obtain ⟨i0, z0, hi0, hz0, hs0, hb0, hc0⟩ := fold_info
  have HI := Lib.hid (And.intro hi0 (And.intro hz0 (And.intro hs0 (And.intro hb0 hc0))))
  clear hi0 hz0 hs0 hb0 hc0
  have HR := Lib.hid h
  clear h
  have HS := Lib.hid (fun w h => split_any 32 l hl w h)
  have hWl := sp_len 32 l
  have HM := Lib.hid (fun x (h : x ∈ sp 32 l) => seg_le h)
  have HL := Lib.hid (ifs_le 32 l)
  have HLAW := Lib.hid (folds_read l)
  have HDI := Lib.hid (show iFolds l = ifs (sp 32 l) from rfl)
  generalize sp 32 l = W at *
  go_enter Tryd.func39, Tryd.ntmps39
  go_wp2_with (go_at_call 82; refine (HS.out _ (HR.out.below (by repeat' (first | with_reducible exact Below.refl _ _ | with_reducible assumption | with_reducible refine Below.drew ?_ | with_reducible refine Below.drewN ?_ _ | with_reducible refine Below.alloc ?_ ?_ _ | with_reducible refine Below.setCell ?_ ?_ _ | with_reducible refine Below.setRow ?_ ?_ _ | with_reducible refine below_step (by assumption) ?_ ?_ | (show (_ : Nat) ≤ _; first | omega | (simp <;> omega)))))).mono ?_; rintro e w1 ⟨rfl, rfl⟩)
  go_loopw [18, 4] (fun i v wr => ∃ k : Nat, k ≤ W.length ∧ i = .int .i64 k ∧ wr.ownsRow w.heap.size 93 3 v (ifs (W.take k)).length (fdsL (ifs (W.take k))) ∧ Below w.heap.size w wr ∧ rowOf wr (w.heap.size + 1) = (strV W).toArray ∧ w.heap.size + 1 < wr.heap.size ∧ ∀ q, v.ownBlock = some q → q ≠ w.heap.size + 1) (fun i v wr => W.length + 1 - (intOf i).toNat)
  case atStart => exact ⟨0, by omega, rfl, owns_below (owns_emptyF _ _) (by repeat' (first | with_reducible exact Below.refl _ _ | with_reducible assumption | with_reducible refine Below.drew ?_ | with_reducible refine Below.drewN ?_ _ | with_reducible refine Below.alloc ?_ ?_ _ | with_reducible refine Below.setCell ?_ ?_ _ | with_reducible refine Below.setRow ?_ ?_ _ | with_reducible refine below_step (by assumption) ?_ ?_ | (show (_ : Nat) ≤ _; first | omega | (simp <;> omega)))), by repeat' (first | with_reducible exact Below.refl _ _ | with_reducible assumption | with_reducible refine Below.drew ?_ | with_reducible refine Below.drewN ?_ _ | with_reducible refine Below.alloc ?_ ?_ _ | with_reducible refine Below.setCell ?_ ?_ _ | with_reducible refine Below.setRow ?_ ?_ _ | with_reducible refine below_step (by assumption) ?_ ?_ | (show (_ : Nat) ≤ _; first | omega | (simp <;> omega))), by (go_simp <;> (intros; omega)), by simp, fun q hq => by simp [Value.ownBlock] at hq; omega⟩
  case round =>
    obtain ⟨k, hk, rfl, hown, hb, hrow, hsz, hno⟩ := hrel
    have HNO := Lib.hid hno
    clear hno
    have hsz0 := hb.size
    have HO := Lib.hid hown
    clear hown
    by_cases hlt : k < W.length
    · obtain ⟨x, hx0⟩ : ∃ x, W[k] = x := ⟨_, rfl⟩
      have hx : W[k]? = some x := by rw [List.getElem?_eq_getElem hlt, hx0]
      have hsv := strV_at hx
      have HT := Lib.hid (ifs_take hx)
      have hxl : x.length ≤ l.length := HM.out x (by rw [← hx0]; exact List.getElem_mem hlt)
      have hlt2 : (k : Int) < (W.length : Int) := by omega
      have HRW := Lib.hid hrow
      have HKL := Lib.hid (show (ifs (W.take k)).length ≤ k by
        have : ∀ l : List (List UInt8), (ifs l).length ≤ l.length := by
          intro l
          induction l with
          | nil => exact Nat.zero_le _
          | cons y r ih => unfold ifs; split <;> simp <;> omega
        exact Nat.le_trans (this _) (by simp; omega))
      generalize (strV W).toArray = SW at *
      clear hx hx0
      by_cases hxe : x = []
      · subst hxe
        go_wp2
        go_roundw
        case rel => first | exact ⟨k + 1, by omega, by go_num, by rw [HT.out, if_pos rfl, List.append_nil]; exact HO.out, by repeat' (first | with_reducible exact Below.refl _ _ | with_reducible assumption | with_reducible refine Below.drew ?_ | with_reducible refine Below.drewN ?_ _ | with_reducible refine Below.alloc ?_ ?_ _ | with_reducible refine Below.setCell ?_ ?_ _ | with_reducible refine Below.setRow ?_ ?_ _ | with_reducible refine below_step (by assumption) ?_ ?_ | (show (_ : Nat) ≤ _; first | omega | (simp <;> omega))), HRW.out, by omega, HNO.out⟩ | ((repeat (with_reducible apply Exists.intro)); refine And.intro ?_ ?_; rotate_left; (focus ((repeat' (with_reducible apply And.intro)) <;> rfl)); exact ⟨k + 1, by omega, by go_num, by rw [HT.out, if_pos rfl, List.append_nil]; exact HO.out, by repeat' (first | with_reducible exact Below.refl _ _ | with_reducible assumption | with_reducible refine Below.drew ?_ | with_reducible refine Below.drewN ?_ _ | with_reducible refine Below.alloc ?_ ?_ _ | with_reducible refine Below.setCell ?_ ?_ _ | with_reducible refine Below.setRow ?_ ?_ _ | with_reducible refine below_step (by assumption) ?_ ?_ | (show (_ : Nat) ≤ _; first | omega | (simp <;> omega))), HRW.out, by omega, HNO.out⟩)
        case measure => simp [intOf]; omega
      · have hx1 : 1 ≤ x.length := List.length_pos_iff.2 hxe
        have hx1' : ¬ x.length < 1 := by omega
        obtain ⟨c, hc0⟩ : ∃ c, x[0] = c := ⟨_, rfl⟩
        have hcx : x[0]? = some c := by rw [List.getElem?_eq_getElem hx1, hc0]
        have HIF := Lib.hid (show ifw x = ⟨IntKind.i8.wrap (pi8 (cut1 47 (rest1 x))), x[0]? == some 104, IntKind.i8.wrap (pi8 (cut2 47 (rest1 x)))⟩ from rfl)
        have HNE := Lib.hid (show ifs (W.take (k + 1)) = ifs (W.take k) ++ [ifw x] by rw [HT.out, if_neg hxe])
        have hrl : (rest1 x).length = x.length - 1 := List.length_drop ..
        have hc1 := cut1_len 47 (rest1 x)
        have hc2 := cut2_len 47 (rest1 x)
        have HC := Lib.hid (fun w h => cut_any 47 (rest1 x) (by omega) w h)
        have HP1 := Lib.hid (fun w h => parse8_any (cut1 47 (rest1 x)) (by omega) w h)
        have HP2 := Lib.hid (fun w h => parse8_any (cut2 47 (rest1 x)) (by omega) w h)
        generalize cut1 47 (rest1 x) = y1 at *
        generalize cut2 47 (rest1 x) = y2 at *
        generalize hxr : rest1 x = xr at *
        generalize pi8 y1 = p1 at *
        generalize pi8 y2 = p2 at *
        clear hc1 hc2 hrl
        have hxn : (x == []) = false := by cases x <;> first | (exact absurd rfl hxe) | rfl
        have hdx : ∃ d : Bool, (x[0]? == some 104) = d ∧ ((c.toNat : Int) == 104) = d ∧ decide ((c.toNat : Int) = 104) = d ∧ decide (c.toNat = 104) = d ∧ (c.toNat == 104) = d := by
          rw [hcx]
          by_cases h104 : c = 104
          · subst h104; exact ⟨true, rfl, rfl, rfl, rfl, rfl⟩
          · have hn : c.toNat ≠ 104 := fun e => h104 (UInt8.toNat_inj.1 e)
            refine ⟨false, ?_, ?_, ?_, ?_, ?_⟩
            · rw [beq_eq_false_iff_ne]; exact fun e => h104 (Option.some.inj e)
            · rw [beq_eq_false_iff_ne]; omega
            · exact decide_eq_false (by omega)
            · exact decide_eq_false hn
            · rw [beq_eq_false_iff_ne]; exact hn
        obtain ⟨d, hd1, hd2, hd3, hd4, hd5⟩ := hdx
        rw [hd1] at HIF
        clear hd1
        go_wp2_with (go_at_call 78; refine (HC.out _ (HR.out.below (by repeat' (first | with_reducible exact Below.refl _ _ | with_reducible assumption | with_reducible refine Below.drew ?_ | with_reducible refine Below.drewN ?_ _ | with_reducible refine Below.alloc ?_ ?_ _ | with_reducible refine Below.setCell ?_ ?_ _ | with_reducible refine Below.setRow ?_ ?_ _ | with_reducible refine below_step (by assumption) ?_ ?_ | (show (_ : Nat) ≤ _; first | omega | (simp <;> omega)))))).mono ?_; rintro e wc ⟨okc, rfl, hbc⟩; have r_hbc := keep_rowA hbc; have f_hbc := keep_frA hbc; have s_hbc := hbc.size; (try simp only [World.size_alloc, World.size_setCell, setRow_size, World.size_drew, size_drewNm] at r_hbc f_hbc s_hbc))
        go_wp2_with (go_at_call 79; with_reducible refine (HP1.out _ (HR.out.below (by repeat' (first | with_reducible exact Below.refl _ _ | with_reducible assumption | with_reducible refine Below.drew ?_ | with_reducible refine Below.drewN ?_ _ | with_reducible refine Below.alloc ?_ ?_ _ | with_reducible refine Below.setCell ?_ ?_ _ | with_reducible refine Below.setRow ?_ ?_ _ | with_reducible refine below_step (by assumption) ?_ ?_ | (show (_ : Nat) ≤ _; first | omega | (simp <;> omega)))))).mono ?_; rintro e wp ⟨er1, rfl, hbp⟩; have r_hbp := keep_rowA hbp; have f_hbp := keep_frA hbp; have s_hbp := hbp.size; (try simp only [World.size_alloc, World.size_setCell, setRow_size, World.size_drew, size_drewNm] at r_hbp f_hbp s_hbp))
        have HQ := Lib.hid (fdsL_snoc (ifs (W.take k)) (ifw x))
        rw [HIF.out] at HQ
        go_wp2_with (first | (go_at_call 79; with_reducible refine (HP2.out _ (HR.out.below (by repeat' (first | with_reducible exact Below.refl _ _ | with_reducible assumption | with_reducible refine Below.drew ?_ | with_reducible refine Below.drewN ?_ _ | with_reducible refine Below.alloc ?_ ?_ _ | with_reducible refine Below.setCell ?_ ?_ _ | with_reducible refine Below.setRow ?_ ?_ _ | with_reducible refine below_step (by assumption) ?_ ?_ | (show (_ : Nat) ≤ _; first | omega | (simp <;> omega)))))).mono ?_; rintro e wq ⟨er2, rfl, hbq⟩; have r_hbq := keep_rowA hbq; have f_hbq := keep_frA hbq; have s_hbq := hbq.size; (try simp only [World.size_alloc, World.size_setCell, setRow_size, World.size_drew, size_drewNm] at r_hbq f_hbq s_hbq)) | (at_builtin; refine wpList_append_own_at _ rfl _ _ 42 rfl w.heap.size 93 i0 z0 3 3 Tryd.underlying42 HI.out.1 HI.out.2.1 HI.out.2.2.1 HI.out.2.2.2.1 HI.out.2.2.2.2 (by decide) _ _ _ rfl ((owns_below HO.out (by repeat' (first | with_reducible exact Below.refl _ _ | with_reducible assumption | with_reducible refine Below.drew ?_ | with_reducible refine Below.drewN ?_ _ | with_reducible refine Below.alloc ?_ ?_ _ | with_reducible refine Below.setCell ?_ ?_ _ | with_reducible refine Below.setRow ?_ ?_ _ | with_reducible refine below_step (by assumption) ?_ ?_ | (show (_ : Nat) ≤ _; first | omega | (simp <;> omega))))).alloc _) ⟨wq.heap.size, 0, none⟩ 1 1 [.int .i8 (IntKind.i8.wrap p1), .bool d, .int .i8 (IntKind.i8.wrap p2)] rfl rfl ?c1 ?c2 ?c3 ?c4 ?c5 ?_))
        case c1 =>
          intro j u hj
          match j, hj with
          | 0, hj => simp at hj; subst hj; simp [Addr.add]
          | 1, hj => simp at hj; subst hj; simp [Addr.add]
          | 2, hj => simp at hj; subst hj; simp [Addr.add]
        case c2 =>
          intro u hu
          simp at hu
          rcases hu with rfl | rfl | rfl <;> rfl
        case c3 => have := HKL.out; unfold maxLen; omega
        case c4 => have := HKL.out; omega
        case c5 => first | omega | (simp <;> omega)
        intro v' w2 hown' hgrow _ hat
        have hbg : Below w.heap.size w w2 := below_grown (Below.alloc (by repeat' (first | with_reducible exact Below.refl _ _ | with_reducible assumption | with_reducible refine Below.drew ?_ | with_reducible refine Below.drewN ?_ _ | with_reducible refine Below.alloc ?_ ?_ _ | with_reducible refine Below.setCell ?_ ?_ _ | with_reducible refine Below.setRow ?_ ?_ _ | with_reducible refine below_step (by assumption) ?_ ?_ | (show (_ : Nat) ≤ _; first | omega | (simp <;> omega)))) (by omega) _) hgrow (owns_base (owns_below HO.out (Below.refl _ _))) (by first | omega | (simp <;> omega))
        have hr2 : rowOf w2 (w.heap.size + 1) = SW := (grown_row hgrow (by first | omega | (simp <;> omega)) (fun h => HNO.out _ h.symm rfl)).trans (by (go_simp <;> (intros; omega)))
        have hs2 : wq.heap.size < w2.heap.size := by first | (have := hgrow.size; omega) | (have := hgrow.size; simp at this; omega)
        rw [← HQ.out] at hown'
        have HAT := Lib.hid (show ∀ q, v'.ownBlock = some q → q ≠ w.heap.size + 1 by
          intro q hq e
          rcases hat with h | h
          · exact HNO.out q (h.symm.trans hq) e
          · rw [h] at hq; first | (cases hq; omega) | (simp at hq; omega))
        have HB := Lib.hid hbg
        have HW := Lib.hid (show w2.ownsRow w.heap.size 93 3 v' (ifs (W.take (k + 1))).length (fdsL (ifs (W.take (k + 1)))) by rw [HNE.out, List.length_append, HIF.out]; exact hown')
        clear hbg hown' hgrow hat
        go_wp2
        go_roundw
        case rel => first | exact ⟨k + 1, by omega, by go_num, HW.out, HB.out, hr2, by omega, HAT.out⟩ | ((repeat (with_reducible apply Exists.intro)); refine And.intro ?_ ?_; rotate_left; (focus ((repeat' (with_reducible apply And.intro)) <;> rfl)); exact ⟨k + 1, by omega, by go_num, HW.out, HB.out, hr2, by omega, HAT.out⟩)
        case measure => simp [intOf]; omega
    · have hke : k = W.length := by omega
      subst hke
      have hd : decide ((W.length : Int) < (W.length : Int)) = false := decide_eq_false (by omega)
      have HV := Lib.hid (show OwnV 3 wr w.heap.size u4 (ifs W).length (fdV (fnOf (ifs W))) by have := HO.out; rw [List.take_length] at this; exact owns_folds this)
      rcases HLAW.out with ⟨L, hs, hi, ht⟩ | ⟨hs, hne⟩
      · have hiw : ifs W = L := by rw [← HDI.out]; exact hi
        obtain ⟨hrd1, hrd2⟩ := rd_some hs
        have HT := Lib.hid (fun v w h => ht ▸ iFoldsText_any v L.length (fnOf L) (by have := HL.out; rw [hiw] at this; omega) (fnOf_in (by rw [← hiw]; exact ifs_in)) w h)
        rw [hiw] at HV
        have HRD := Lib.hid (And.intro hrd1 hrd2)
        clear hrd1 hrd2 ht hi hiw hs
        go_wp2_with (go_at_call 24; refine (HT.out _ _ (HV.out.below (by repeat' (first | with_reducible exact Below.refl _ _ | with_reducible assumption | with_reducible refine Below.drew ?_ | with_reducible refine Below.drewN ?_ _ | with_reducible refine Below.alloc ?_ ?_ _ | with_reducible refine Below.setCell ?_ ?_ _ | with_reducible refine Below.setRow ?_ ?_ _ | with_reducible refine below_step (by assumption) ?_ ?_ | (show (_ : Nat) ≤ _; first | omega | (simp <;> omega)))) (Nat.le_refl _)).slV).mono ?_; rintro e wf ⟨rfl, hbf⟩; have r_hbf := keep_rowA hbf; have f_hbf := keep_frA hbf; have s_hbf := hbf.size; (try simp only [World.size_alloc, World.size_setCell, setRow_size, World.size_drew, size_drewNm] at r_hbf f_hbf s_hbf))
        refine bodyPost_ret (v := .tuple #[u4, .int .i64 0]) (res_tt rfl rfl rfl) rfl ⟨_, by rw [HRD.out.2], by rw [HRD.out.1]; exact HV.out.below (by repeat' (first | with_reducible exact Below.refl _ _ | with_reducible assumption | with_reducible refine Below.drew ?_ | with_reducible refine Below.drewN ?_ _ | with_reducible refine Below.alloc ?_ ?_ _ | with_reducible refine Below.setCell ?_ ?_ _ | with_reducible refine Below.setRow ?_ ?_ _ | with_reducible refine below_step (by assumption) ?_ ?_ | (show (_ : Nat) ≤ _; first | omega | (simp <;> omega)))) (Nat.le_refl _), by repeat' (first | with_reducible exact Below.refl _ _ | with_reducible assumption | with_reducible refine Below.drew ?_ | with_reducible refine Below.drewN ?_ _ | with_reducible refine Below.alloc ?_ ?_ _ | with_reducible refine Below.setCell ?_ ?_ _ | with_reducible refine Below.setRow ?_ ?_ _ | with_reducible refine below_step (by assumption) ?_ ?_ | (show (_ : Nat) ≤ _; first | omega | (simp <;> omega)))⟩
      · obtain ⟨hrd1, hrd2⟩ := rd_none hs
        rw [HDI.out] at hne
        have HT := Lib.hid (fun v w h => iFoldsText_any v (ifs W).length (fnOf (ifs W)) (by have := HL.out; omega) (fnOf_in ifs_in) w h)
        have HRD := Lib.hid (And.intro hrd1 hrd2)
        clear hrd1 hrd2 hs
        generalize fTx (fnOf (ifs W)) (ifs W).length = t2 at *
        have hnb : (t2 == l) = false := by rw [beq_eq_false_iff_ne]; exact hne
        go_wp2_with (go_at_call 24; refine (HT.out _ _ (HV.out.below (by repeat' (first | with_reducible exact Below.refl _ _ | with_reducible assumption | with_reducible refine Below.drew ?_ | with_reducible refine Below.drewN ?_ _ | with_reducible refine Below.alloc ?_ ?_ _ | with_reducible refine Below.setCell ?_ ?_ _ | with_reducible refine Below.setRow ?_ ?_ _ | with_reducible refine below_step (by assumption) ?_ ?_ | (show (_ : Nat) ≤ _; first | omega | (simp <;> omega)))) (Nat.le_refl _)).slV).mono ?_; rintro e wf ⟨rfl, hbf⟩; have r_hbf := keep_rowA hbf; have f_hbf := keep_frA hbf; have s_hbf := hbf.size; (try simp only [World.size_alloc, World.size_setCell, setRow_size, World.size_drew, size_drewNm] at r_hbf f_hbf s_hbf))
        refine bodyPost_ret (v := .tuple #[.slice none 0 0, .int .i64 5]) (res_tt rfl rfl rfl) rfl ⟨_, by rw [HRD.out.2], by rw [HRD.out.1]; exact .inl ⟨rfl, rfl⟩, by repeat' (first | with_reducible exact Below.refl _ _ | with_reducible assumption | with_reducible refine Below.drew ?_ | with_reducible refine Below.drewN ?_ _ | with_reducible refine Below.alloc ?_ ?_ _ | with_reducible refine Below.setCell ?_ ?_ _ | with_reducible refine Below.setRow ?_ ?_ _ | with_reducible refine below_step (by assumption) ?_ ?_ | (show (_ : Nat) ≤ _; first | omega | (simp <;> omega)))⟩
end Go.Proofs.YtbnhhjjhjjmmjaaDoor
/- Folds read from a text: the reference. -/
namespace Go.Proofs.YtbnhhjjhjjmmjaaDoor
open Go.RowKit Go.Sort
set_option linter.unusedVariables false
set_option linter.unusedSimpArgs false
set_option maxRecDepth 100000
theorem sfw_len {x : List UInt8} (h : (sp 47 x).length ≠ 2) : sfw x = none := by
  unfold sfw
  split
  · rename_i e; rw [e] at h; exact absurd rfl h
  · rfl
theorem sfw_short {x u v : List UInt8} (h : sp 47 x = [u, v]) (hu : u.length < 2) : sfw x = none := by
  unfold sfw
  rw [h]
  match u, hu with
  | [], _ => rfl
  | [_], _ => rfl
theorem sfw_kind {x u v : List UInt8} {c : UInt8} (h : sp 47 x = [u, v]) (hc : u[0]? = some c) (h1 : c ≠ 118) (h2 : c ≠ 104) : sfw x = none := by
  unfold sfw
  rw [h]
  match u, hc with
  | [_], _ => rfl
  | k :: d :: r, hc =>
    obtain rfl : k = c := Option.some.inj hc
    show (if k = 118 ∨ k = 104 then _ else _) = _
    rw [if_neg (fun h => h.elim h1 h2)]
theorem sfw_num {x u v : List UInt8} {c : UInt8} (h : sp 47 x = [u, v]) (hu : 2 ≤ u.length) (hc : u[0]? = some c) (h1 : c = 118 ∨ c = 104) : sfw x = sfk c (rest1 u) v := by
  unfold sfw
  rw [h]
  match u, hu, hc with
  | k :: d :: r, _, hc =>
    obtain rfl : k = c := Option.some.inj hc
    show (if k = 118 ∨ k = 104 then _ else _) = _
    rw [if_pos h1]; rfl
theorem sfs_app : ∀ (a b : List (List UInt8)), sfs (a ++ b) = match sfs a with | none => none | some la => match sfs b with | none => none | some lb => some (la ++ lb)
  | [], b => by show sfs b = match sfs b with | none => none | some lb => some ([] ++ lb); cases sfs b <;> rfl
  | w :: r, b => by
    rw [List.cons_append, sfs, sfs, sfs_app r b]
    cases sfw w with
    | none => rfl
    | some x => cases sfs r with
      | none => rfl
      | some l => cases sfs b <;> rfl
theorem sfs_next {W : List (List UInt8)} {k : Nat} {x : List UInt8} {L : List Fd} {y : Fd} (h : sfs (W.take k) = some L) (hx : W[k]? = some x) (hy : sfw x = some y) : sfs (W.take (k + 1)) = some (L ++ [y]) := by
  rw [List.take_add_one, hx, sfs_app, h]
  show (match sfs [x] with | none => none | some lb => some (L ++ lb)) = _
  simp only [sfs, hy]
theorem sfs_stop {W : List (List UInt8)} {k : Nat} {x : List UInt8} {L : List Fd} (h : sfs (W.take k) = some L) (hx : W[k]? = some x) (hy : sfw x = none) : sfs W = none := by
  obtain ⟨hk, he⟩ := List.getElem?_eq_some_iff.1 hx
  have e : W = W.take k ++ x :: W.drop (k + 1) := by rw [← he, List.getElem_cons_drop, List.take_append_drop]
  rw [e, sfs_app, h]
  show (match sfs (x :: W.drop (k + 1)) with | none => none | some lb => some (L ++ lb)) = _
  simp only [sfs, hy]
theorem sfs_len : ∀ {W : List (List UInt8)} {L : List Fd}, sfs W = some L → L.length = W.length := fun h => by
  have := congrArg List.length (sfs_some h).1
  rw [List.length_map] at this; exact this.symm
theorem own_strs {w : World} {base n : Nat} {e : TypeId} {v : Value} {W : List (List UInt8)} (h : w.ownsRow base e 1 v n (strV W)) (h0 : 0 < n) : ∃ g cap, v = .slice (some ⟨g, 0, none⟩) n cap ∧ base ≤ g ∧ g < w.heap.size ∧ ∀ j x, j < n → W[j]? = some x → (rowOf w g)[j]? = some (.string (tx x)) := by
  obtain ⟨hl, ⟨rfl, rfl⟩ | ⟨g, cap, cur, rfl, hb, hg, h1, h2, h3, ht⟩⟩ := h
  · omega
  · have hrow : rowOf w g = cur := by simp [rowOf, hg, objRow]
    refine ⟨g, cap, rfl, hb, (Array.getElem?_eq_some_iff.1 hg).1, fun j x hj hx => ?_⟩
    have e := strV_at hx
    rw [List.getElem?_toArray, ← ht, List.getElem?_take, if_pos (by omega)] at e
    rw [hrow, ← Array.getElem?_toList]; exact e
theorem own_noneF (w : World) (e : TypeId) {b : Nat} (hb : b ≤ w.heap.size) (V : Nat → Nat → Value) : OwnV 3 (w.alloc (.cells #[] e)) b (.slice (some ⟨w.heap.size, 0, none⟩) 0 0) 0 V := (OwnV.of (owns_emptyF w e) (fun k hk => absurd hk (Nat.not_lt_zero _))).down hb
theorem sfk_none1 (c : UInt8) (v : List UInt8) {l : List UInt8} (h : numB l = none) : sfk c l v = none := by unfold sfk; rw [h]
theorem sfk_none2 (c : UInt8) (l : List UInt8) {v : List UInt8} (h : numB v = none) : sfk c l v = none := by unfold sfk; rw [h]; cases numB l <;> rfl
theorem sfk_yes (c : UInt8) {l v : List UInt8} {a p : Nat} (h1 : numB l = some a) (h2 : numB v = some p) : sfk c l v = if a ≤ 8 ∧ p ≤ 8 ∧ plainB ⟨(a : Int), c == 104, (p : Int)⟩ = true then some ⟨(a : Int), c == 104, (p : Int)⟩ else none := by unfold sfk; rw [h1, h2]
theorem numV_is (l : List UInt8) : ∃ (a : Int) (b : Bool), numV l = .tuple #[.int .i64 a, .bool b] ∧ (b = true → ∃ n : Nat, a = n ∧ numB l = some n) ∧ (b = false → numB l = none) := by
  cases h : numB l with
  | none => exact ⟨0, false, numV_none h, (fun e => by cases e), fun _ => rfl⟩
  | some n => exact ⟨n, true, numV_some h, fun _ => ⟨n, rfl, rfl⟩, (fun e => by cases e)⟩
set_option maxHeartbeats 16000000 in
theorem sReadFolds_any (l : List UInt8) (hl : l.length ≤ 1048576) (w : World) :
    Calls Tryd.prog 38 #[.string (tx l)] w fun e w' => ∃ v, e = .returned (.tuple #[v, .int .i64 (rdC l)]) ∧ OwnV 3 w' w.heap.size v (rdL l).length (fdV (fnOf (rdL l))) ∧ Below w.heap.size w w' := by
  by_cases h0 : l = []
  · subst h0
    obtain ⟨hr1, hr2⟩ := rd_some (show sFolds [] = some [] from rfl)
    have HRD := Lib.hid (And.intro hr1 hr2)
    clear hr1 hr2
    go_enter Tryd.func38, Tryd.ntmps38
    go_wp2
    refine bodyPost_ret (v := .tuple #[.slice (some ⟨w.heap.size, 0, none⟩) 0 0, .int .i64 0]) (res_tt rfl rfl rfl) rfl ⟨_, by rw [HRD.out.2], by rw [HRD.out.1]; exact own_noneF _ _ (Nat.le_refl _) _, by repeat' (first | with_reducible exact Below.refl _ _ | with_reducible assumption | with_reducible refine Below.drew ?_ | with_reducible refine Below.drewN ?_ _ | with_reducible refine Below.alloc ?_ ?_ _ | with_reducible refine Below.setCell ?_ ?_ _ | with_reducible refine Below.setRow ?_ ?_ _ | with_reducible refine below_step (by assumption) ?_ ?_ | (show (_ : Nat) ≤ _; first | omega | (simp <;> omega)))⟩
  obtain ⟨i0, z0, hi0, hz0, hs0, hb0, hc0⟩ := fold_info
  have HI := Lib.hid (And.intro hi0 (And.intro hz0 (And.intro hs0 (And.intro hb0 hc0))))
  clear hi0 hz0 hs0 hb0 hc0
  have hne : (l == []) = false := by cases l <;> first | (exact absurd rfl h0) | rfl
  have HS := Lib.hid (fun w => l01Split_any 32 l hl w)
  have HM := Lib.hid (fun x (h : x ∈ sp 32 l) => seg_le h)
  have hW0 : 0 < (sp 32 l).length := List.length_pos_iff.2 (sp_ne 32 l)
  have HF := Lib.hid (show sFolds l = if 30 < (sp 32 l).length then none else sfs (sp 32 l) by unfold sFolds; rw [if_neg h0])
  generalize sp 32 l = W at *
  by_cases h30 : 30 < W.length
  · have HRD := Lib.hid (rd_none (show sFolds l = none by rw [HF.out, if_pos h30]))
    have h30' : (30 : Int) < (W.length : Int) := by omega
    go_enter Tryd.func38, Tryd.ntmps38
    go_wp2_with (go_at_call 75; refine (HS.out _).mono ?_; rintro e w1 ⟨vW, rfl, hown, hb1⟩; have r_hb1 := keep_rowA hb1; have f_hb1 := keep_frA hb1; have s_hb1 := hb1.size; (try simp only [World.size_alloc, World.size_setCell, setRow_size, World.size_drew, size_drewNm] at r_hb1 f_hb1 s_hb1); obtain ⟨g, cap, rfl, hg1, hg2, hgr⟩ := own_strs hown hW0; have HGR := Lib.hid hgr; clear hown hgr)
    generalize hRR : rowOf w1 g = R at *
    have hgw : w.heap.size + 1 ≤ g := by first | omega | (simp at hg1; omega)
    have hb0 : Below w.heap.size w w1 := by repeat' (first | with_reducible exact Below.refl _ _ | with_reducible assumption | with_reducible refine Below.drew ?_ | with_reducible refine Below.drewN ?_ _ | with_reducible refine Below.alloc ?_ ?_ _ | with_reducible refine Below.setCell ?_ ?_ _ | with_reducible refine Below.setRow ?_ ?_ _ | with_reducible refine below_step (by assumption) ?_ ?_ | (show (_ : Nat) ≤ _; first | omega | (simp <;> omega)))
    have hsz1 := hb0.size
    clear hg1 hb1
    refine bodyPost_ret (v := .tuple #[.slice (some ⟨w1.heap.size, 0, none⟩) 0 0, .int .i64 5]) (res_tt rfl rfl rfl) rfl ⟨_, by rw [HRD.out.2], by rw [HRD.out.1]; exact own_noneF _ _ hsz1 _, by repeat' (first | with_reducible exact Below.refl _ _ | with_reducible assumption | with_reducible refine Below.drew ?_ | with_reducible refine Below.drewN ?_ _ | with_reducible refine Below.alloc ?_ ?_ _ | with_reducible refine Below.setCell ?_ ?_ _ | with_reducible refine Below.setRow ?_ ?_ _ | with_reducible refine below_step (by assumption) ?_ ?_ | (show (_ : Nat) ≤ _; first | omega | (simp <;> omega)))⟩
  have h30' : ¬ (30 : Int) < (W.length : Int) := by omega
  have HF2 := Lib.hid (show sFolds l = sfs W by rw [HF.out, if_neg h30])
  go_enter Tryd.func38, Tryd.ntmps38
  go_wp2_with (go_at_call 75; refine (HS.out _).mono ?_; rintro e w1 ⟨vW, rfl, hown, hb1⟩; have r_hb1 := keep_rowA hb1; have f_hb1 := keep_frA hb1; have s_hb1 := hb1.size; (try simp only [World.size_alloc, World.size_setCell, setRow_size, World.size_drew, size_drewNm] at r_hb1 f_hb1 s_hb1); obtain ⟨g, cap, rfl, hg1, hg2, hgr⟩ := own_strs hown hW0; have HGR := Lib.hid hgr; clear hown hgr)
  generalize hRR : rowOf w1 g = R at *
  have hgw : w.heap.size + 1 ≤ g := by first | omega | (simp at hg1; omega)
  have hb0 : Below w.heap.size w w1 := by repeat' (first | with_reducible exact Below.refl _ _ | with_reducible assumption | with_reducible refine Below.drew ?_ | with_reducible refine Below.drewN ?_ _ | with_reducible refine Below.alloc ?_ ?_ _ | with_reducible refine Below.setCell ?_ ?_ _ | with_reducible refine Below.setRow ?_ ?_ _ | with_reducible refine below_step (by assumption) ?_ ?_ | (show (_ : Nat) ≤ _; first | omega | (simp <;> omega)))
  have hsz1 := hb0.size
  have HB1 := Lib.hid hb1
  clear hg1 hb1
  go_loopw [6, 4] (fun i v wr => ∃ (k : Nat) (L : List Fd), k ≤ W.length ∧ i = .int .i64 k ∧ sfs (W.take k) = some L ∧ wr.ownsRow w.heap.size 93 3 v L.length (fdsL L) ∧ Below w.heap.size w wr ∧ rowOf wr g = R ∧ g < wr.heap.size ∧ ∀ q, v.ownBlock = some q → q ≠ g) (fun i v wr => W.length + 1 - (intOf i).toNat)
  case atStart => exact ⟨0, [], by omega, rfl, rfl, owns_below (owns_emptyF w _) HB1.out, by repeat' (first | with_reducible exact Below.refl _ _ | with_reducible assumption | with_reducible refine Below.drew ?_ | with_reducible refine Below.drewN ?_ _ | with_reducible refine Below.alloc ?_ ?_ _ | with_reducible refine Below.setCell ?_ ?_ _ | with_reducible refine Below.setRow ?_ ?_ _ | with_reducible refine below_step (by assumption) ?_ ?_ | (show (_ : Nat) ≤ _; first | omega | (simp <;> omega))), hRR, hg2, fun q hq => by simp [Value.ownBlock] at hq; omega⟩
  case round =>
    obtain ⟨k, L, hk, rfl, hsf, hown, hb, hrow, hsz, hno⟩ := hrel
    have hsz0 := hb.size
    have hLk : L.length = k := by rw [sfs_len hsf, List.length_take]; omega
    have HSF := Lib.hid hsf
    have HNO := Lib.hid hno
    have HO := Lib.hid hown
    clear hno hown hsf
    by_cases hlt : k < W.length
    · obtain ⟨x, hx0⟩ : ∃ x, W[k] = x := ⟨_, rfl⟩
      have hx : W[k]? = some x := by rw [List.getElem?_eq_getElem hlt, hx0]
      have hsv : R[k]? = some (.string (tx x)) := HGR.out k x hlt hx
      have hxl : x.length ≤ 1048576 := Nat.le_trans (HM.out x (by rw [← hx0]; exact List.getElem_mem hlt)) hl
      have hlt2 : (k : Int) < (W.length : Int) := by omega
      have HBAD := Lib.hid (fun (h : sfw x = none) => rd_none (HF2.out.trans (sfs_stop HSF.out hx h)))
      have HGOOD := Lib.hid (fun y (h : sfw x = some y) => sfs_next HSF.out hx h)
      have HSP := Lib.hid (fun w => l01Split_any 47 x hxl w)
      have HM2 := Lib.hid (fun y (h : y ∈ sp 47 x) => seg_le h)
      clear hx hx0
      by_cases h2 : (sp 47 x).length = 2
      · obtain ⟨u, v, hP⟩ : ∃ u v, sp 47 x = [u, v] := by
          match sp 47 x, h2 with
          | [u, v], _ => exact ⟨u, v, rfl⟩
        have hul : u.length ≤ 1048576 := Nat.le_trans (HM2.out u (by rw [hP]; simp)) hxl
        have hvl : v.length ≤ 1048576 := Nat.le_trans (HM2.out v (by rw [hP]; simp)) hxl
        have HP := Lib.hid hP
        rw [hP] at HSP
        clear hP h2
        by_cases hu2 : u.length < 2
        · have hu2' : (u.length : Int) < 2 := by omega
          have HRD := Lib.hid (HBAD.out (sfw_short HP.out hu2))
          go_wp2_with ((go_at_call 75; refine (HSP.out _).mono ?_; rintro e wp ⟨vP, rfl, hownP, hbp⟩; have r_hbp := keep_rowA hbp; have f_hbp := keep_frA hbp; have s_hbp := hbp.size; (try simp only [World.size_alloc, World.size_setCell, setRow_size, World.size_drew, size_drewNm] at r_hbp f_hbp s_hbp); obtain ⟨g2, cap2, rfl, hg21, hg22, hgr2⟩ := own_strs hownP (Nat.succ_pos _); have hp0 := hgr2 0 _ (Nat.succ_pos _) rfl; have hp1 := hgr2 1 _ (Nat.succ_lt_succ (Nat.succ_pos _)) rfl; obtain ⟨R2, hR2⟩ : ∃ R2, rowOf wp g2 = R2 := ⟨_, rfl⟩; rw [hR2] at hp0 hp1; have hR2X : rowOfX wp g2 = R2 := hR2; clear hownP hgr2))
          refine bodyPost_ret (v := .tuple #[.slice (some ⟨wp.heap.size, 0, none⟩) 0 0, .int .i64 5]) (res_tt rfl rfl rfl) rfl ⟨_, by rw [HRD.out.2], by rw [HRD.out.1]; exact own_noneF _ _ (by have := hsz0; omega) _, by repeat' (first | with_reducible exact Below.refl _ _ | with_reducible assumption | with_reducible refine Below.drew ?_ | with_reducible refine Below.drewN ?_ _ | with_reducible refine Below.alloc ?_ ?_ _ | with_reducible refine Below.setCell ?_ ?_ _ | with_reducible refine Below.setRow ?_ ?_ _ | with_reducible refine below_step (by assumption) ?_ ?_ | (show (_ : Nat) ≤ _; first | omega | (simp <;> omega)))⟩
        have hu2' : ¬ (u.length : Int) < 2 := by omega
        have hu1 : 1 ≤ u.length := by omega
        have hu1' : ¬ u.length < 1 := by omega
        obtain ⟨c, hc0⟩ : ∃ c, u[0] = c := ⟨_, rfl⟩
        have hcx : u[0]? = some c := by rw [List.getElem?_eq_getElem (by omega), hc0]
        by_cases hck : c = 118 ∨ c = 104
        case neg =>
          have n1 : ¬ c = 118 := fun h => hck (.inl h)
          have n2 : ¬ c = 104 := fun h => hck (.inr h)
          have m1 : ¬ c.toNat = 118 := fun h => n1 (UInt8.toNat_inj.1 h)
          have m2 : ¬ c.toNat = 104 := fun h => n2 (UInt8.toNat_inj.1 h)
          have e1a : ((c.toNat : Int) == 118) = false := by rw [beq_eq_false_iff_ne]; omega
          have e1b : decide ((c.toNat : Int) = 118) = false := decide_eq_false (by omega)
          have e1c : decide (c.toNat = 118) = false := decide_eq_false (by omega)
          have e1d : (c.toNat == 118) = false := by rw [beq_eq_false_iff_ne]; omega
          have e1e : ((c.toNat : Int) != 118) = true := by unfold bne; rw [e1a]; rfl
          have e1f : (c.toNat != 118) = true := by unfold bne; rw [e1d]; rfl
          have e2a : ((c.toNat : Int) == 104) = false := by rw [beq_eq_false_iff_ne]; omega
          have e2b : decide ((c.toNat : Int) = 104) = false := decide_eq_false (by omega)
          have e2c : decide (c.toNat = 104) = false := decide_eq_false (by omega)
          have e2d : (c.toNat == 104) = false := by rw [beq_eq_false_iff_ne]; omega
          have e2e : ((c.toNat : Int) != 104) = true := by unfold bne; rw [e2a]; rfl
          have e2f : (c.toNat != 104) = true := by unfold bne; rw [e2d]; rfl
          have HRD := Lib.hid (HBAD.out (sfw_kind HP.out hcx n1 n2))
          go_wp2_with ((go_at_call 75; refine (HSP.out _).mono ?_; rintro e wp ⟨vP, rfl, hownP, hbp⟩; have r_hbp := keep_rowA hbp; have f_hbp := keep_frA hbp; have s_hbp := hbp.size; (try simp only [World.size_alloc, World.size_setCell, setRow_size, World.size_drew, size_drewNm] at r_hbp f_hbp s_hbp); obtain ⟨g2, cap2, rfl, hg21, hg22, hgr2⟩ := own_strs hownP (Nat.succ_pos _); have hp0 := hgr2 0 _ (Nat.succ_pos _) rfl; have hp1 := hgr2 1 _ (Nat.succ_lt_succ (Nat.succ_pos _)) rfl; obtain ⟨R2, hR2⟩ : ∃ R2, rowOf wp g2 = R2 := ⟨_, rfl⟩; rw [hR2] at hp0 hp1; have hR2X : rowOfX wp g2 = R2 := hR2; clear hownP hgr2))
          refine bodyPost_ret (v := .tuple #[.slice (some ⟨wp.heap.size, 0, none⟩) 0 0, .int .i64 5]) (res_tt rfl rfl rfl) rfl ⟨_, by rw [HRD.out.2], by rw [HRD.out.1]; exact own_noneF _ _ (by have := hsz0; omega) _, by repeat' (first | with_reducible exact Below.refl _ _ | with_reducible assumption | with_reducible refine Below.drew ?_ | with_reducible refine Below.drewN ?_ _ | with_reducible refine Below.alloc ?_ ?_ _ | with_reducible refine Below.setCell ?_ ?_ _ | with_reducible refine Below.setRow ?_ ?_ _ | with_reducible refine below_step (by assumption) ?_ ?_ | (show (_ : Nat) ≤ _; first | omega | (simp <;> omega)))⟩
        have HW := Lib.hid (sfw_num HP.out (by omega) hcx hck)
        obtain ⟨a, ba, hA, hA1, hA2⟩ := numV_is (rest1 u)
        obtain ⟨p, bp, hB, hB1, hB2⟩ := numV_is v
        have hrl : (rest1 u).length = u.length - 1 := List.length_drop ..
        have HNU := Lib.hid (fun w => hA ▸ l01Number_any (rest1 u) (by omega) w)
        have HNV := Lib.hid (fun w => hB ▸ l01Number_any v hvl w)
        have HA1 := Lib.hid hA1
        have HA2 := Lib.hid hA2
        have HB1' := Lib.hid hB1
        have HB2 := Lib.hid hB2
        have HSK1 := Lib.hid (fun h => sfk_none1 c v (l := rest1 u) h)
        have HSK2 := Lib.hid (fun h => sfk_none2 c (rest1 u) (v := v) h)
        have HSK3 := Lib.hid (fun a p h1 h2 => sfk_yes c (l := rest1 u) (v := v) (a := a) (p := p) h1 h2)
        generalize hxr : rest1 u = xr at *
        clear hA hB hA1 hA2 hB1 hB2 hrl
        rcases hck with hck | hck
        · have m0 : c.toNat = 118 := by rw [hck]; rfl
          have hcd : (c == 104) = false := by rw [hck]; rfl
          clear hck
          have e1a : ((c.toNat : Int) == 118) = true := by rw [beq_iff_eq]; omega
          have e1b : decide ((c.toNat : Int) = 118) = true := decide_eq_true (by omega)
          have e1c : decide (c.toNat = 118) = true := decide_eq_true (by omega)
          have e1d : (c.toNat == 118) = true := by rw [beq_iff_eq]; omega
          have e1e : ((c.toNat : Int) != 118) = false := by unfold bne; rw [e1a]; rfl
          have e1f : (c.toNat != 118) = false := by unfold bne; rw [e1d]; rfl
          have e2a : ((c.toNat : Int) == 104) = false := by rw [beq_eq_false_iff_ne]; omega
          have e2b : decide ((c.toNat : Int) = 104) = false := decide_eq_false (by omega)
          have e2c : decide (c.toNat = 104) = false := decide_eq_false (by omega)
          have e2d : (c.toNat == 104) = false := by rw [beq_eq_false_iff_ne]; omega
          have e2e : ((c.toNat : Int) != 104) = true := by unfold bne; rw [e2a]; rfl
          have e2f : (c.toNat != 104) = true := by unfold bne; rw [e2d]; rfl
          cases ba with
          | false =>
            have HRD := Lib.hid (HBAD.out (HW.out.trans (HSK1.out (HA2.out rfl))))
            go_wp2_with (first | (go_at_call 75; refine (HSP.out _).mono ?_; rintro e wp ⟨vP, rfl, hownP, hbp⟩; have r_hbp := keep_rowA hbp; have f_hbp := keep_frA hbp; have s_hbp := hbp.size; (try simp only [World.size_alloc, World.size_setCell, setRow_size, World.size_drew, size_drewNm] at r_hbp f_hbp s_hbp); obtain ⟨g2, cap2, rfl, hg21, hg22, hgr2⟩ := own_strs hownP (Nat.succ_pos _); have hp0 := hgr2 0 _ (Nat.succ_pos _) rfl; have hp1 := hgr2 1 _ (Nat.succ_lt_succ (Nat.succ_pos _)) rfl; obtain ⟨R2, hR2⟩ : ∃ R2, rowOf wp g2 = R2 := ⟨_, rfl⟩; rw [hR2] at hp0 hp1; have hR2X : rowOfX wp g2 = R2 := hR2; clear hownP hgr2) | (go_at_call 76; with_reducible refine (HNU.out _).mono ?_; rintro e wn ⟨rfl, hbn⟩; have r_hbn := keep_rowA hbn; have f_hbn := keep_frA hbn; have s_hbn := hbn.size; (try simp only [World.size_alloc, World.size_setCell, setRow_size, World.size_drew, size_drewNm] at r_hbn f_hbn s_hbn)) | (go_at_call 76; with_reducible refine (HNV.out _).mono ?_; rintro e wv ⟨rfl, hbv⟩; have r_hbv := keep_rowA hbv; have f_hbv := keep_frA hbv; have s_hbv := hbv.size; (try simp only [World.size_alloc, World.size_setCell, setRow_size, World.size_drew, size_drewNm] at r_hbv f_hbv s_hbv)))
            refine bodyPost_ret (v := .tuple #[.slice (some ⟨wv.heap.size, 0, none⟩) 0 0, .int .i64 5]) (res_tt rfl rfl rfl) rfl ⟨_, by rw [HRD.out.2], by rw [HRD.out.1]; exact own_noneF _ _ (by have := hsz0; omega) _, by repeat' (first | with_reducible exact Below.refl _ _ | with_reducible assumption | with_reducible refine Below.drew ?_ | with_reducible refine Below.drewN ?_ _ | with_reducible refine Below.alloc ?_ ?_ _ | with_reducible refine Below.setCell ?_ ?_ _ | with_reducible refine Below.setRow ?_ ?_ _ | with_reducible refine below_step (by assumption) ?_ ?_ | (show (_ : Nat) ≤ _; first | omega | (simp <;> omega)))⟩
          | true =>
            obtain ⟨a', rfl, hA⟩ := HA1.out rfl
            cases bp with
            | false =>
              have HRD := Lib.hid (HBAD.out (HW.out.trans (HSK2.out (HB2.out rfl))))
              go_wp2_with (first | (go_at_call 75; refine (HSP.out _).mono ?_; rintro e wp ⟨vP, rfl, hownP, hbp⟩; have r_hbp := keep_rowA hbp; have f_hbp := keep_frA hbp; have s_hbp := hbp.size; (try simp only [World.size_alloc, World.size_setCell, setRow_size, World.size_drew, size_drewNm] at r_hbp f_hbp s_hbp); obtain ⟨g2, cap2, rfl, hg21, hg22, hgr2⟩ := own_strs hownP (Nat.succ_pos _); have hp0 := hgr2 0 _ (Nat.succ_pos _) rfl; have hp1 := hgr2 1 _ (Nat.succ_lt_succ (Nat.succ_pos _)) rfl; obtain ⟨R2, hR2⟩ : ∃ R2, rowOf wp g2 = R2 := ⟨_, rfl⟩; rw [hR2] at hp0 hp1; have hR2X : rowOfX wp g2 = R2 := hR2; clear hownP hgr2) | (go_at_call 76; with_reducible refine (HNU.out _).mono ?_; rintro e wn ⟨rfl, hbn⟩; have r_hbn := keep_rowA hbn; have f_hbn := keep_frA hbn; have s_hbn := hbn.size; (try simp only [World.size_alloc, World.size_setCell, setRow_size, World.size_drew, size_drewNm] at r_hbn f_hbn s_hbn)) | (go_at_call 76; with_reducible refine (HNV.out _).mono ?_; rintro e wv ⟨rfl, hbv⟩; have r_hbv := keep_rowA hbv; have f_hbv := keep_frA hbv; have s_hbv := hbv.size; (try simp only [World.size_alloc, World.size_setCell, setRow_size, World.size_drew, size_drewNm] at r_hbv f_hbv s_hbv)))
              refine bodyPost_ret (v := .tuple #[.slice (some ⟨wv.heap.size, 0, none⟩) 0 0, .int .i64 5]) (res_tt rfl rfl rfl) rfl ⟨_, by rw [HRD.out.2], by rw [HRD.out.1]; exact own_noneF _ _ (by have := hsz0; omega) _, by repeat' (first | with_reducible exact Below.refl _ _ | with_reducible assumption | with_reducible refine Below.drew ?_ | with_reducible refine Below.drewN ?_ _ | with_reducible refine Below.alloc ?_ ?_ _ | with_reducible refine Below.setCell ?_ ?_ _ | with_reducible refine Below.setRow ?_ ?_ _ | with_reducible refine below_step (by assumption) ?_ ?_ | (show (_ : Nat) ≤ _; first | omega | (simp <;> omega)))⟩
            | true =>
              obtain ⟨p', rfl, hB⟩ := HB1'.out rfl
              have HK := Lib.hid (HW.out.trans (HSK3.out a' p' hA hB))
              rw [hcd] at HK
              clear hA hB hcd
              by_cases ha8 : 8 < a'
              · have ha8' : (8 : Int) < (a' : Int) := by omega
                have HRD := Lib.hid (HBAD.out (HK.out.trans (if_neg (by omega))))
                go_wp2_with (first | (go_at_call 75; refine (HSP.out _).mono ?_; rintro e wp ⟨vP, rfl, hownP, hbp⟩; have r_hbp := keep_rowA hbp; have f_hbp := keep_frA hbp; have s_hbp := hbp.size; (try simp only [World.size_alloc, World.size_setCell, setRow_size, World.size_drew, size_drewNm] at r_hbp f_hbp s_hbp); obtain ⟨g2, cap2, rfl, hg21, hg22, hgr2⟩ := own_strs hownP (Nat.succ_pos _); have hp0 := hgr2 0 _ (Nat.succ_pos _) rfl; have hp1 := hgr2 1 _ (Nat.succ_lt_succ (Nat.succ_pos _)) rfl; obtain ⟨R2, hR2⟩ : ∃ R2, rowOf wp g2 = R2 := ⟨_, rfl⟩; rw [hR2] at hp0 hp1; have hR2X : rowOfX wp g2 = R2 := hR2; clear hownP hgr2) | (go_at_call 76; with_reducible refine (HNU.out _).mono ?_; rintro e wn ⟨rfl, hbn⟩; have r_hbn := keep_rowA hbn; have f_hbn := keep_frA hbn; have s_hbn := hbn.size; (try simp only [World.size_alloc, World.size_setCell, setRow_size, World.size_drew, size_drewNm] at r_hbn f_hbn s_hbn)) | (go_at_call 76; with_reducible refine (HNV.out _).mono ?_; rintro e wv ⟨rfl, hbv⟩; have r_hbv := keep_rowA hbv; have f_hbv := keep_frA hbv; have s_hbv := hbv.size; (try simp only [World.size_alloc, World.size_setCell, setRow_size, World.size_drew, size_drewNm] at r_hbv f_hbv s_hbv)))
                refine bodyPost_ret (v := .tuple #[.slice (some ⟨wv.heap.size, 0, none⟩) 0 0, .int .i64 5]) (res_tt rfl rfl rfl) rfl ⟨_, by rw [HRD.out.2], by rw [HRD.out.1]; exact own_noneF _ _ (by have := hsz0; omega) _, by repeat' (first | with_reducible exact Below.refl _ _ | with_reducible assumption | with_reducible refine Below.drew ?_ | with_reducible refine Below.drewN ?_ _ | with_reducible refine Below.alloc ?_ ?_ _ | with_reducible refine Below.setCell ?_ ?_ _ | with_reducible refine Below.setRow ?_ ?_ _ | with_reducible refine below_step (by assumption) ?_ ?_ | (show (_ : Nat) ≤ _; first | omega | (simp <;> omega)))⟩
              have ha8' : ¬ (8 : Int) < (a' : Int) := by omega
              by_cases hp8 : 8 < p'
              · have hp8' : (8 : Int) < (p' : Int) := by omega
                have HRD := Lib.hid (HBAD.out (HK.out.trans (if_neg (by omega))))
                go_wp2_with (first | (go_at_call 75; refine (HSP.out _).mono ?_; rintro e wp ⟨vP, rfl, hownP, hbp⟩; have r_hbp := keep_rowA hbp; have f_hbp := keep_frA hbp; have s_hbp := hbp.size; (try simp only [World.size_alloc, World.size_setCell, setRow_size, World.size_drew, size_drewNm] at r_hbp f_hbp s_hbp); obtain ⟨g2, cap2, rfl, hg21, hg22, hgr2⟩ := own_strs hownP (Nat.succ_pos _); have hp0 := hgr2 0 _ (Nat.succ_pos _) rfl; have hp1 := hgr2 1 _ (Nat.succ_lt_succ (Nat.succ_pos _)) rfl; obtain ⟨R2, hR2⟩ : ∃ R2, rowOf wp g2 = R2 := ⟨_, rfl⟩; rw [hR2] at hp0 hp1; have hR2X : rowOfX wp g2 = R2 := hR2; clear hownP hgr2) | (go_at_call 76; with_reducible refine (HNU.out _).mono ?_; rintro e wn ⟨rfl, hbn⟩; have r_hbn := keep_rowA hbn; have f_hbn := keep_frA hbn; have s_hbn := hbn.size; (try simp only [World.size_alloc, World.size_setCell, setRow_size, World.size_drew, size_drewNm] at r_hbn f_hbn s_hbn)) | (go_at_call 76; with_reducible refine (HNV.out _).mono ?_; rintro e wv ⟨rfl, hbv⟩; have r_hbv := keep_rowA hbv; have f_hbv := keep_frA hbv; have s_hbv := hbv.size; (try simp only [World.size_alloc, World.size_setCell, setRow_size, World.size_drew, size_drewNm] at r_hbv f_hbv s_hbv)))
                refine bodyPost_ret (v := .tuple #[.slice (some ⟨wv.heap.size, 0, none⟩) 0 0, .int .i64 5]) (res_tt rfl rfl rfl) rfl ⟨_, by rw [HRD.out.2], by rw [HRD.out.1]; exact own_noneF _ _ (by have := hsz0; omega) _, by repeat' (first | with_reducible exact Below.refl _ _ | with_reducible assumption | with_reducible refine Below.drew ?_ | with_reducible refine Below.drewN ?_ _ | with_reducible refine Below.alloc ?_ ?_ _ | with_reducible refine Below.setCell ?_ ?_ _ | with_reducible refine Below.setRow ?_ ?_ _ | with_reducible refine below_step (by assumption) ?_ ?_ | (show (_ : Nat) ≤ _; first | omega | (simp <;> omega)))⟩
              have hp8' : ¬ (8 : Int) < (p' : Int) := by omega
              have hwa : IntKind.i8.wrap (a' : Int) = (a' : Int) := by simp only [IntKind.wrap, IntKind.bits, IntKind.signed]; simp; omega
              have hwp : IntKind.i8.wrap (p' : Int) = (p' : Int) := by simp only [IntKind.wrap, IntKind.bits, IntKind.signed]; simp; omega
              have HPL0 := fun w => l03Plain_any ⟨(a' : Int), false, (p' : Int)⟩ ⟨⟨by simp only; omega, by simp only; omega⟩, by simp only; omega, by simp only; omega⟩ w
              rcases Bool.eq_false_or_eq_true (plainB ⟨(a' : Int), false, (p' : Int)⟩) with hpl | hpl
              case inr =>
                rw [hpl] at HPL0
                have HPL := Lib.hid HPL0
                have HRD := Lib.hid (HBAD.out (HK.out.trans (if_neg (by rw [hpl]; simp))))
                clear HPL0 hpl
                go_wp2_with (first | (go_at_call 75; refine (HSP.out _).mono ?_; rintro e wp ⟨vP, rfl, hownP, hbp⟩; have r_hbp := keep_rowA hbp; have f_hbp := keep_frA hbp; have s_hbp := hbp.size; (try simp only [World.size_alloc, World.size_setCell, setRow_size, World.size_drew, size_drewNm] at r_hbp f_hbp s_hbp); obtain ⟨g2, cap2, rfl, hg21, hg22, hgr2⟩ := own_strs hownP (Nat.succ_pos _); have hp0 := hgr2 0 _ (Nat.succ_pos _) rfl; have hp1 := hgr2 1 _ (Nat.succ_lt_succ (Nat.succ_pos _)) rfl; obtain ⟨R2, hR2⟩ : ∃ R2, rowOf wp g2 = R2 := ⟨_, rfl⟩; rw [hR2] at hp0 hp1; have hR2X : rowOfX wp g2 = R2 := hR2; clear hownP hgr2) | (go_at_call 76; with_reducible refine (HNU.out _).mono ?_; rintro e wn ⟨rfl, hbn⟩; have r_hbn := keep_rowA hbn; have f_hbn := keep_frA hbn; have s_hbn := hbn.size; (try simp only [World.size_alloc, World.size_setCell, setRow_size, World.size_drew, size_drewNm] at r_hbn f_hbn s_hbn)) | (go_at_call 76; with_reducible refine (HNV.out _).mono ?_; rintro e wv ⟨rfl, hbv⟩; have r_hbv := keep_rowA hbv; have f_hbv := keep_frA hbv; have s_hbv := hbv.size; (try simp only [World.size_alloc, World.size_setCell, setRow_size, World.size_drew, size_drewNm] at r_hbv f_hbv s_hbv)) | (go_at_call 59; refine (HPL.out _).mono ?_; rintro e wl ⟨rfl, hbl⟩; have r_hbl := keep_rowA hbl; have f_hbl := keep_frA hbl; have s_hbl := hbl.size; (try simp only [World.size_alloc, World.size_setCell, setRow_size, World.size_drew, size_drewNm] at r_hbl f_hbl s_hbl)))
                refine bodyPost_ret (v := .tuple #[.slice (some ⟨wl.heap.size, 0, none⟩) 0 0, .int .i64 5]) (res_tt rfl rfl rfl) rfl ⟨_, by rw [HRD.out.2], by rw [HRD.out.1]; exact own_noneF _ _ (by have := hsz0; omega) _, by repeat' (first | with_reducible exact Below.refl _ _ | with_reducible assumption | with_reducible refine Below.drew ?_ | with_reducible refine Below.drewN ?_ _ | with_reducible refine Below.alloc ?_ ?_ _ | with_reducible refine Below.setCell ?_ ?_ _ | with_reducible refine Below.setRow ?_ ?_ _ | with_reducible refine below_step (by assumption) ?_ ?_ | (show (_ : Nat) ≤ _; first | omega | (simp <;> omega)))⟩
              rw [hpl] at HPL0
              have HPL := Lib.hid HPL0
              have HN := Lib.hid (HGOOD.out _ (HK.out.trans (if_pos ⟨by omega, by omega, hpl⟩)))
              have HQ := Lib.hid (fdsL_snoc L ⟨(a' : Int), false, (p' : Int)⟩)
              clear HPL0 hpl
              go_wp2_with (first | (go_at_call 75; refine (HSP.out _).mono ?_; rintro e wp ⟨vP, rfl, hownP, hbp⟩; have r_hbp := keep_rowA hbp; have f_hbp := keep_frA hbp; have s_hbp := hbp.size; (try simp only [World.size_alloc, World.size_setCell, setRow_size, World.size_drew, size_drewNm] at r_hbp f_hbp s_hbp); obtain ⟨g2, cap2, rfl, hg21, hg22, hgr2⟩ := own_strs hownP (Nat.succ_pos _); have hp0 := hgr2 0 _ (Nat.succ_pos _) rfl; have hp1 := hgr2 1 _ (Nat.succ_lt_succ (Nat.succ_pos _)) rfl; obtain ⟨R2, hR2⟩ : ∃ R2, rowOf wp g2 = R2 := ⟨_, rfl⟩; rw [hR2] at hp0 hp1; have hR2X : rowOfX wp g2 = R2 := hR2; clear hownP hgr2) | (go_at_call 76; with_reducible refine (HNU.out _).mono ?_; rintro e wn ⟨rfl, hbn⟩; have r_hbn := keep_rowA hbn; have f_hbn := keep_frA hbn; have s_hbn := hbn.size; (try simp only [World.size_alloc, World.size_setCell, setRow_size, World.size_drew, size_drewNm] at r_hbn f_hbn s_hbn)) | (go_at_call 76; with_reducible refine (HNV.out _).mono ?_; rintro e wv ⟨rfl, hbv⟩; have r_hbv := keep_rowA hbv; have f_hbv := keep_frA hbv; have s_hbv := hbv.size; (try simp only [World.size_alloc, World.size_setCell, setRow_size, World.size_drew, size_drewNm] at r_hbv f_hbv s_hbv)) | (go_at_call 59; refine (HPL.out _).mono ?_; rintro e wl ⟨rfl, hbl⟩; have r_hbl := keep_rowA hbl; have f_hbl := keep_frA hbl; have s_hbl := hbl.size; (try simp only [World.size_alloc, World.size_setCell, setRow_size, World.size_drew, size_drewNm] at r_hbl f_hbl s_hbl)) | (at_builtin; refine wpList_append_own_at _ rfl _ _ 42 rfl w.heap.size 93 i0 z0 3 3 Tryd.underlying42 HI.out.1 HI.out.2.1 HI.out.2.2.1 HI.out.2.2.2.1 HI.out.2.2.2.2 (by decide) _ _ _ rfl ((owns_below HO.out (by repeat' (first | with_reducible exact Below.refl _ _ | with_reducible assumption | with_reducible refine Below.drew ?_ | with_reducible refine Below.drewN ?_ _ | with_reducible refine Below.alloc ?_ ?_ _ | with_reducible refine Below.setCell ?_ ?_ _ | with_reducible refine Below.setRow ?_ ?_ _ | with_reducible refine below_step (by assumption) ?_ ?_ | (show (_ : Nat) ≤ _; first | omega | (simp <;> omega))))).alloc _) ⟨wl.heap.size, 0, none⟩ 1 1 [.int .i8 (a' : Int), .bool false, .int .i8 (p' : Int)] rfl rfl ?c1 ?c2 ?c3 ?c4 ?c5 ?_))
              case c1 =>
                intro j u hj
                match j, hj with
                | 0, hj => simp at hj; subst hj; simp [Addr.add]
                | 1, hj => simp at hj; subst hj; simp [Addr.add]
                | 2, hj => simp at hj; subst hj; simp [Addr.add]
              case c2 =>
                intro u hu
                simp at hu
                rcases hu with rfl | rfl | rfl <;> rfl
              case c3 => unfold maxLen; omega
              case c4 => omega
              case c5 => first | omega | (simp <;> omega)
              intro v' w2 hown' hgrow _ hat
              have hbg : Below w.heap.size w w2 := below_grown (Below.alloc (by repeat' (first | with_reducible exact Below.refl _ _ | with_reducible assumption | with_reducible refine Below.drew ?_ | with_reducible refine Below.drewN ?_ _ | with_reducible refine Below.alloc ?_ ?_ _ | with_reducible refine Below.setCell ?_ ?_ _ | with_reducible refine Below.setRow ?_ ?_ _ | with_reducible refine below_step (by assumption) ?_ ?_ | (show (_ : Nat) ≤ _; first | omega | (simp <;> omega)))) (by omega) _) hgrow (owns_base (owns_below HO.out (Below.refl _ _))) (by first | omega | (simp <;> omega))
              have hr2 : rowOf w2 g = R := (grown_row hgrow (by first | omega | (simp <;> omega)) (fun h => HNO.out _ h.symm rfl)).trans (by (go_simp <;> (intros; omega)))
              have hs2 : wl.heap.size < w2.heap.size := by first | (have := hgrow.size; omega) | (have := hgrow.size; simp at this; omega)
              have HAT := Lib.hid (show ∀ q, v'.ownBlock = some q → q ≠ g by
                intro q hq e
                rcases hat with h | h
                · exact HNO.out q (h.symm.trans hq) e
                · rw [h] at hq; first | (cases hq; omega) | (simp at hq; omega))
              have HB := Lib.hid hbg
              have HV := Lib.hid (show w2.ownsRow w.heap.size 93 3 v' (L ++ [(⟨(a' : Int), false, (p' : Int)⟩ : Fd)]).length (fdsL (L ++ [(⟨(a' : Int), false, (p' : Int)⟩ : Fd)])) by rw [List.length_append, HQ.out, hLk]; exact hown')
              clear hbg hown' hgrow hat
              go_wp2
              go_roundw
              case rel => first | exact ⟨k + 1, L ++ [⟨(a' : Int), false, (p' : Int)⟩], by omega, by go_num, HN.out, HV.out, HB.out, hr2, by omega, HAT.out⟩ | ((repeat (with_reducible apply Exists.intro)); refine And.intro ?_ ?_; rotate_left; (focus ((repeat' (with_reducible apply And.intro)) <;> rfl)); exact ⟨k + 1, L ++ [⟨(a' : Int), false, (p' : Int)⟩], by omega, by go_num, HN.out, HV.out, HB.out, hr2, by omega, HAT.out⟩)
              case measure => simp [intOf]; omega
        · have m0 : c.toNat = 104 := by rw [hck]; rfl
          have hcd : (c == 104) = true := by rw [hck]; rfl
          clear hck
          have e1a : ((c.toNat : Int) == 118) = false := by rw [beq_eq_false_iff_ne]; omega
          have e1b : decide ((c.toNat : Int) = 118) = false := decide_eq_false (by omega)
          have e1c : decide (c.toNat = 118) = false := decide_eq_false (by omega)
          have e1d : (c.toNat == 118) = false := by rw [beq_eq_false_iff_ne]; omega
          have e1e : ((c.toNat : Int) != 118) = true := by unfold bne; rw [e1a]; rfl
          have e1f : (c.toNat != 118) = true := by unfold bne; rw [e1d]; rfl
          have e2a : ((c.toNat : Int) == 104) = true := by rw [beq_iff_eq]; omega
          have e2b : decide ((c.toNat : Int) = 104) = true := decide_eq_true (by omega)
          have e2c : decide (c.toNat = 104) = true := decide_eq_true (by omega)
          have e2d : (c.toNat == 104) = true := by rw [beq_iff_eq]; omega
          have e2e : ((c.toNat : Int) != 104) = false := by unfold bne; rw [e2a]; rfl
          have e2f : (c.toNat != 104) = false := by unfold bne; rw [e2d]; rfl
          cases ba with
          | false =>
            have HRD := Lib.hid (HBAD.out (HW.out.trans (HSK1.out (HA2.out rfl))))
            go_wp2_with (first | (go_at_call 75; refine (HSP.out _).mono ?_; rintro e wp ⟨vP, rfl, hownP, hbp⟩; have r_hbp := keep_rowA hbp; have f_hbp := keep_frA hbp; have s_hbp := hbp.size; (try simp only [World.size_alloc, World.size_setCell, setRow_size, World.size_drew, size_drewNm] at r_hbp f_hbp s_hbp); obtain ⟨g2, cap2, rfl, hg21, hg22, hgr2⟩ := own_strs hownP (Nat.succ_pos _); have hp0 := hgr2 0 _ (Nat.succ_pos _) rfl; have hp1 := hgr2 1 _ (Nat.succ_lt_succ (Nat.succ_pos _)) rfl; obtain ⟨R2, hR2⟩ : ∃ R2, rowOf wp g2 = R2 := ⟨_, rfl⟩; rw [hR2] at hp0 hp1; have hR2X : rowOfX wp g2 = R2 := hR2; clear hownP hgr2) | (go_at_call 76; with_reducible refine (HNU.out _).mono ?_; rintro e wn ⟨rfl, hbn⟩; have r_hbn := keep_rowA hbn; have f_hbn := keep_frA hbn; have s_hbn := hbn.size; (try simp only [World.size_alloc, World.size_setCell, setRow_size, World.size_drew, size_drewNm] at r_hbn f_hbn s_hbn)) | (go_at_call 76; with_reducible refine (HNV.out _).mono ?_; rintro e wv ⟨rfl, hbv⟩; have r_hbv := keep_rowA hbv; have f_hbv := keep_frA hbv; have s_hbv := hbv.size; (try simp only [World.size_alloc, World.size_setCell, setRow_size, World.size_drew, size_drewNm] at r_hbv f_hbv s_hbv)))
            refine bodyPost_ret (v := .tuple #[.slice (some ⟨wv.heap.size, 0, none⟩) 0 0, .int .i64 5]) (res_tt rfl rfl rfl) rfl ⟨_, by rw [HRD.out.2], by rw [HRD.out.1]; exact own_noneF _ _ (by have := hsz0; omega) _, by repeat' (first | with_reducible exact Below.refl _ _ | with_reducible assumption | with_reducible refine Below.drew ?_ | with_reducible refine Below.drewN ?_ _ | with_reducible refine Below.alloc ?_ ?_ _ | with_reducible refine Below.setCell ?_ ?_ _ | with_reducible refine Below.setRow ?_ ?_ _ | with_reducible refine below_step (by assumption) ?_ ?_ | (show (_ : Nat) ≤ _; first | omega | (simp <;> omega)))⟩
          | true =>
            obtain ⟨a', rfl, hA⟩ := HA1.out rfl
            cases bp with
            | false =>
              have HRD := Lib.hid (HBAD.out (HW.out.trans (HSK2.out (HB2.out rfl))))
              go_wp2_with (first | (go_at_call 75; refine (HSP.out _).mono ?_; rintro e wp ⟨vP, rfl, hownP, hbp⟩; have r_hbp := keep_rowA hbp; have f_hbp := keep_frA hbp; have s_hbp := hbp.size; (try simp only [World.size_alloc, World.size_setCell, setRow_size, World.size_drew, size_drewNm] at r_hbp f_hbp s_hbp); obtain ⟨g2, cap2, rfl, hg21, hg22, hgr2⟩ := own_strs hownP (Nat.succ_pos _); have hp0 := hgr2 0 _ (Nat.succ_pos _) rfl; have hp1 := hgr2 1 _ (Nat.succ_lt_succ (Nat.succ_pos _)) rfl; obtain ⟨R2, hR2⟩ : ∃ R2, rowOf wp g2 = R2 := ⟨_, rfl⟩; rw [hR2] at hp0 hp1; have hR2X : rowOfX wp g2 = R2 := hR2; clear hownP hgr2) | (go_at_call 76; with_reducible refine (HNU.out _).mono ?_; rintro e wn ⟨rfl, hbn⟩; have r_hbn := keep_rowA hbn; have f_hbn := keep_frA hbn; have s_hbn := hbn.size; (try simp only [World.size_alloc, World.size_setCell, setRow_size, World.size_drew, size_drewNm] at r_hbn f_hbn s_hbn)) | (go_at_call 76; with_reducible refine (HNV.out _).mono ?_; rintro e wv ⟨rfl, hbv⟩; have r_hbv := keep_rowA hbv; have f_hbv := keep_frA hbv; have s_hbv := hbv.size; (try simp only [World.size_alloc, World.size_setCell, setRow_size, World.size_drew, size_drewNm] at r_hbv f_hbv s_hbv)))
              refine bodyPost_ret (v := .tuple #[.slice (some ⟨wv.heap.size, 0, none⟩) 0 0, .int .i64 5]) (res_tt rfl rfl rfl) rfl ⟨_, by rw [HRD.out.2], by rw [HRD.out.1]; exact own_noneF _ _ (by have := hsz0; omega) _, by repeat' (first | with_reducible exact Below.refl _ _ | with_reducible assumption | with_reducible refine Below.drew ?_ | with_reducible refine Below.drewN ?_ _ | with_reducible refine Below.alloc ?_ ?_ _ | with_reducible refine Below.setCell ?_ ?_ _ | with_reducible refine Below.setRow ?_ ?_ _ | with_reducible refine below_step (by assumption) ?_ ?_ | (show (_ : Nat) ≤ _; first | omega | (simp <;> omega)))⟩
            | true =>
              obtain ⟨p', rfl, hB⟩ := HB1'.out rfl
              have HK := Lib.hid (HW.out.trans (HSK3.out a' p' hA hB))
              rw [hcd] at HK
              clear hA hB hcd
              by_cases ha8 : 8 < a'
              · have ha8' : (8 : Int) < (a' : Int) := by omega
                have HRD := Lib.hid (HBAD.out (HK.out.trans (if_neg (by omega))))
                go_wp2_with (first | (go_at_call 75; refine (HSP.out _).mono ?_; rintro e wp ⟨vP, rfl, hownP, hbp⟩; have r_hbp := keep_rowA hbp; have f_hbp := keep_frA hbp; have s_hbp := hbp.size; (try simp only [World.size_alloc, World.size_setCell, setRow_size, World.size_drew, size_drewNm] at r_hbp f_hbp s_hbp); obtain ⟨g2, cap2, rfl, hg21, hg22, hgr2⟩ := own_strs hownP (Nat.succ_pos _); have hp0 := hgr2 0 _ (Nat.succ_pos _) rfl; have hp1 := hgr2 1 _ (Nat.succ_lt_succ (Nat.succ_pos _)) rfl; obtain ⟨R2, hR2⟩ : ∃ R2, rowOf wp g2 = R2 := ⟨_, rfl⟩; rw [hR2] at hp0 hp1; have hR2X : rowOfX wp g2 = R2 := hR2; clear hownP hgr2) | (go_at_call 76; with_reducible refine (HNU.out _).mono ?_; rintro e wn ⟨rfl, hbn⟩; have r_hbn := keep_rowA hbn; have f_hbn := keep_frA hbn; have s_hbn := hbn.size; (try simp only [World.size_alloc, World.size_setCell, setRow_size, World.size_drew, size_drewNm] at r_hbn f_hbn s_hbn)) | (go_at_call 76; with_reducible refine (HNV.out _).mono ?_; rintro e wv ⟨rfl, hbv⟩; have r_hbv := keep_rowA hbv; have f_hbv := keep_frA hbv; have s_hbv := hbv.size; (try simp only [World.size_alloc, World.size_setCell, setRow_size, World.size_drew, size_drewNm] at r_hbv f_hbv s_hbv)))
                refine bodyPost_ret (v := .tuple #[.slice (some ⟨wv.heap.size, 0, none⟩) 0 0, .int .i64 5]) (res_tt rfl rfl rfl) rfl ⟨_, by rw [HRD.out.2], by rw [HRD.out.1]; exact own_noneF _ _ (by have := hsz0; omega) _, by repeat' (first | with_reducible exact Below.refl _ _ | with_reducible assumption | with_reducible refine Below.drew ?_ | with_reducible refine Below.drewN ?_ _ | with_reducible refine Below.alloc ?_ ?_ _ | with_reducible refine Below.setCell ?_ ?_ _ | with_reducible refine Below.setRow ?_ ?_ _ | with_reducible refine below_step (by assumption) ?_ ?_ | (show (_ : Nat) ≤ _; first | omega | (simp <;> omega)))⟩
              have ha8' : ¬ (8 : Int) < (a' : Int) := by omega
              by_cases hp8 : 8 < p'
              · have hp8' : (8 : Int) < (p' : Int) := by omega
                have HRD := Lib.hid (HBAD.out (HK.out.trans (if_neg (by omega))))
                go_wp2_with (first | (go_at_call 75; refine (HSP.out _).mono ?_; rintro e wp ⟨vP, rfl, hownP, hbp⟩; have r_hbp := keep_rowA hbp; have f_hbp := keep_frA hbp; have s_hbp := hbp.size; (try simp only [World.size_alloc, World.size_setCell, setRow_size, World.size_drew, size_drewNm] at r_hbp f_hbp s_hbp); obtain ⟨g2, cap2, rfl, hg21, hg22, hgr2⟩ := own_strs hownP (Nat.succ_pos _); have hp0 := hgr2 0 _ (Nat.succ_pos _) rfl; have hp1 := hgr2 1 _ (Nat.succ_lt_succ (Nat.succ_pos _)) rfl; obtain ⟨R2, hR2⟩ : ∃ R2, rowOf wp g2 = R2 := ⟨_, rfl⟩; rw [hR2] at hp0 hp1; have hR2X : rowOfX wp g2 = R2 := hR2; clear hownP hgr2) | (go_at_call 76; with_reducible refine (HNU.out _).mono ?_; rintro e wn ⟨rfl, hbn⟩; have r_hbn := keep_rowA hbn; have f_hbn := keep_frA hbn; have s_hbn := hbn.size; (try simp only [World.size_alloc, World.size_setCell, setRow_size, World.size_drew, size_drewNm] at r_hbn f_hbn s_hbn)) | (go_at_call 76; with_reducible refine (HNV.out _).mono ?_; rintro e wv ⟨rfl, hbv⟩; have r_hbv := keep_rowA hbv; have f_hbv := keep_frA hbv; have s_hbv := hbv.size; (try simp only [World.size_alloc, World.size_setCell, setRow_size, World.size_drew, size_drewNm] at r_hbv f_hbv s_hbv)))
                refine bodyPost_ret (v := .tuple #[.slice (some ⟨wv.heap.size, 0, none⟩) 0 0, .int .i64 5]) (res_tt rfl rfl rfl) rfl ⟨_, by rw [HRD.out.2], by rw [HRD.out.1]; exact own_noneF _ _ (by have := hsz0; omega) _, by repeat' (first | with_reducible exact Below.refl _ _ | with_reducible assumption | with_reducible refine Below.drew ?_ | with_reducible refine Below.drewN ?_ _ | with_reducible refine Below.alloc ?_ ?_ _ | with_reducible refine Below.setCell ?_ ?_ _ | with_reducible refine Below.setRow ?_ ?_ _ | with_reducible refine below_step (by assumption) ?_ ?_ | (show (_ : Nat) ≤ _; first | omega | (simp <;> omega)))⟩
              have hp8' : ¬ (8 : Int) < (p' : Int) := by omega
              have hwa : IntKind.i8.wrap (a' : Int) = (a' : Int) := by simp only [IntKind.wrap, IntKind.bits, IntKind.signed]; simp; omega
              have hwp : IntKind.i8.wrap (p' : Int) = (p' : Int) := by simp only [IntKind.wrap, IntKind.bits, IntKind.signed]; simp; omega
              have HPL0 := fun w => l03Plain_any ⟨(a' : Int), true, (p' : Int)⟩ ⟨⟨by simp only; omega, by simp only; omega⟩, by simp only; omega, by simp only; omega⟩ w
              rcases Bool.eq_false_or_eq_true (plainB ⟨(a' : Int), true, (p' : Int)⟩) with hpl | hpl
              case inr =>
                rw [hpl] at HPL0
                have HPL := Lib.hid HPL0
                have HRD := Lib.hid (HBAD.out (HK.out.trans (if_neg (by rw [hpl]; simp))))
                clear HPL0 hpl
                go_wp2_with (first | (go_at_call 75; refine (HSP.out _).mono ?_; rintro e wp ⟨vP, rfl, hownP, hbp⟩; have r_hbp := keep_rowA hbp; have f_hbp := keep_frA hbp; have s_hbp := hbp.size; (try simp only [World.size_alloc, World.size_setCell, setRow_size, World.size_drew, size_drewNm] at r_hbp f_hbp s_hbp); obtain ⟨g2, cap2, rfl, hg21, hg22, hgr2⟩ := own_strs hownP (Nat.succ_pos _); have hp0 := hgr2 0 _ (Nat.succ_pos _) rfl; have hp1 := hgr2 1 _ (Nat.succ_lt_succ (Nat.succ_pos _)) rfl; obtain ⟨R2, hR2⟩ : ∃ R2, rowOf wp g2 = R2 := ⟨_, rfl⟩; rw [hR2] at hp0 hp1; have hR2X : rowOfX wp g2 = R2 := hR2; clear hownP hgr2) | (go_at_call 76; with_reducible refine (HNU.out _).mono ?_; rintro e wn ⟨rfl, hbn⟩; have r_hbn := keep_rowA hbn; have f_hbn := keep_frA hbn; have s_hbn := hbn.size; (try simp only [World.size_alloc, World.size_setCell, setRow_size, World.size_drew, size_drewNm] at r_hbn f_hbn s_hbn)) | (go_at_call 76; with_reducible refine (HNV.out _).mono ?_; rintro e wv ⟨rfl, hbv⟩; have r_hbv := keep_rowA hbv; have f_hbv := keep_frA hbv; have s_hbv := hbv.size; (try simp only [World.size_alloc, World.size_setCell, setRow_size, World.size_drew, size_drewNm] at r_hbv f_hbv s_hbv)) | (go_at_call 59; refine (HPL.out _).mono ?_; rintro e wl ⟨rfl, hbl⟩; have r_hbl := keep_rowA hbl; have f_hbl := keep_frA hbl; have s_hbl := hbl.size; (try simp only [World.size_alloc, World.size_setCell, setRow_size, World.size_drew, size_drewNm] at r_hbl f_hbl s_hbl)))
                refine bodyPost_ret (v := .tuple #[.slice (some ⟨wl.heap.size, 0, none⟩) 0 0, .int .i64 5]) (res_tt rfl rfl rfl) rfl ⟨_, by rw [HRD.out.2], by rw [HRD.out.1]; exact own_noneF _ _ (by have := hsz0; omega) _, by repeat' (first | with_reducible exact Below.refl _ _ | with_reducible assumption | with_reducible refine Below.drew ?_ | with_reducible refine Below.drewN ?_ _ | with_reducible refine Below.alloc ?_ ?_ _ | with_reducible refine Below.setCell ?_ ?_ _ | with_reducible refine Below.setRow ?_ ?_ _ | with_reducible refine below_step (by assumption) ?_ ?_ | (show (_ : Nat) ≤ _; first | omega | (simp <;> omega)))⟩
              rw [hpl] at HPL0
              have HPL := Lib.hid HPL0
              have HN := Lib.hid (HGOOD.out _ (HK.out.trans (if_pos ⟨by omega, by omega, hpl⟩)))
              have HQ := Lib.hid (fdsL_snoc L ⟨(a' : Int), true, (p' : Int)⟩)
              clear HPL0 hpl
              go_wp2_with (first | (go_at_call 75; refine (HSP.out _).mono ?_; rintro e wp ⟨vP, rfl, hownP, hbp⟩; have r_hbp := keep_rowA hbp; have f_hbp := keep_frA hbp; have s_hbp := hbp.size; (try simp only [World.size_alloc, World.size_setCell, setRow_size, World.size_drew, size_drewNm] at r_hbp f_hbp s_hbp); obtain ⟨g2, cap2, rfl, hg21, hg22, hgr2⟩ := own_strs hownP (Nat.succ_pos _); have hp0 := hgr2 0 _ (Nat.succ_pos _) rfl; have hp1 := hgr2 1 _ (Nat.succ_lt_succ (Nat.succ_pos _)) rfl; obtain ⟨R2, hR2⟩ : ∃ R2, rowOf wp g2 = R2 := ⟨_, rfl⟩; rw [hR2] at hp0 hp1; have hR2X : rowOfX wp g2 = R2 := hR2; clear hownP hgr2) | (go_at_call 76; with_reducible refine (HNU.out _).mono ?_; rintro e wn ⟨rfl, hbn⟩; have r_hbn := keep_rowA hbn; have f_hbn := keep_frA hbn; have s_hbn := hbn.size; (try simp only [World.size_alloc, World.size_setCell, setRow_size, World.size_drew, size_drewNm] at r_hbn f_hbn s_hbn)) | (go_at_call 76; with_reducible refine (HNV.out _).mono ?_; rintro e wv ⟨rfl, hbv⟩; have r_hbv := keep_rowA hbv; have f_hbv := keep_frA hbv; have s_hbv := hbv.size; (try simp only [World.size_alloc, World.size_setCell, setRow_size, World.size_drew, size_drewNm] at r_hbv f_hbv s_hbv)) | (go_at_call 59; refine (HPL.out _).mono ?_; rintro e wl ⟨rfl, hbl⟩; have r_hbl := keep_rowA hbl; have f_hbl := keep_frA hbl; have s_hbl := hbl.size; (try simp only [World.size_alloc, World.size_setCell, setRow_size, World.size_drew, size_drewNm] at r_hbl f_hbl s_hbl)) | (at_builtin; refine wpList_append_own_at _ rfl _ _ 42 rfl w.heap.size 93 i0 z0 3 3 Tryd.underlying42 HI.out.1 HI.out.2.1 HI.out.2.2.1 HI.out.2.2.2.1 HI.out.2.2.2.2 (by decide) _ _ _ rfl ((owns_below HO.out (by repeat' (first | with_reducible exact Below.refl _ _ | with_reducible assumption | with_reducible refine Below.drew ?_ | with_reducible refine Below.drewN ?_ _ | with_reducible refine Below.alloc ?_ ?_ _ | with_reducible refine Below.setCell ?_ ?_ _ | with_reducible refine Below.setRow ?_ ?_ _ | with_reducible refine below_step (by assumption) ?_ ?_ | (show (_ : Nat) ≤ _; first | omega | (simp <;> omega))))).alloc _) ⟨wl.heap.size, 0, none⟩ 1 1 [.int .i8 (a' : Int), .bool true, .int .i8 (p' : Int)] rfl rfl ?c1 ?c2 ?c3 ?c4 ?c5 ?_))
              case c1 =>
                intro j u hj
                match j, hj with
                | 0, hj => simp at hj; subst hj; simp [Addr.add]
                | 1, hj => simp at hj; subst hj; simp [Addr.add]
                | 2, hj => simp at hj; subst hj; simp [Addr.add]
              case c2 =>
                intro u hu
                simp at hu
                rcases hu with rfl | rfl | rfl <;> rfl
              case c3 => unfold maxLen; omega
              case c4 => omega
              case c5 => first | omega | (simp <;> omega)
              intro v' w2 hown' hgrow _ hat
              have hbg : Below w.heap.size w w2 := below_grown (Below.alloc (by repeat' (first | with_reducible exact Below.refl _ _ | with_reducible assumption | with_reducible refine Below.drew ?_ | with_reducible refine Below.drewN ?_ _ | with_reducible refine Below.alloc ?_ ?_ _ | with_reducible refine Below.setCell ?_ ?_ _ | with_reducible refine Below.setRow ?_ ?_ _ | with_reducible refine below_step (by assumption) ?_ ?_ | (show (_ : Nat) ≤ _; first | omega | (simp <;> omega)))) (by omega) _) hgrow (owns_base (owns_below HO.out (Below.refl _ _))) (by first | omega | (simp <;> omega))
              have hr2 : rowOf w2 g = R := (grown_row hgrow (by first | omega | (simp <;> omega)) (fun h => HNO.out _ h.symm rfl)).trans (by (go_simp <;> (intros; omega)))
              have hs2 : wl.heap.size < w2.heap.size := by first | (have := hgrow.size; omega) | (have := hgrow.size; simp at this; omega)
              have HAT := Lib.hid (show ∀ q, v'.ownBlock = some q → q ≠ g by
                intro q hq e
                rcases hat with h | h
                · exact HNO.out q (h.symm.trans hq) e
                · rw [h] at hq; first | (cases hq; omega) | (simp at hq; omega))
              have HB := Lib.hid hbg
              have HV := Lib.hid (show w2.ownsRow w.heap.size 93 3 v' (L ++ [(⟨(a' : Int), true, (p' : Int)⟩ : Fd)]).length (fdsL (L ++ [(⟨(a' : Int), true, (p' : Int)⟩ : Fd)])) by rw [List.length_append, HQ.out, hLk]; exact hown')
              clear hbg hown' hgrow hat
              go_wp2
              go_roundw
              case rel => first | exact ⟨k + 1, L ++ [⟨(a' : Int), true, (p' : Int)⟩], by omega, by go_num, HN.out, HV.out, HB.out, hr2, by omega, HAT.out⟩ | ((repeat (with_reducible apply Exists.intro)); refine And.intro ?_ ?_; rotate_left; (focus ((repeat' (with_reducible apply And.intro)) <;> rfl)); exact ⟨k + 1, L ++ [⟨(a' : Int), true, (p' : Int)⟩], by omega, by go_num, HN.out, HV.out, HB.out, hr2, by omega, HAT.out⟩)
              case measure => simp [intOf]; omega
      · have h2' : ((((sp 47 x).length : Nat) : Int) == 2) = false := by rw [beq_eq_false_iff_ne]; omega
        have hpos : 0 < (sp 47 x).length := List.length_pos_iff.2 (sp_ne 47 x)
        have HBAD2 := Lib.hid (sfw_len h2)
        generalize sp 47 x = P at *
        have HRD := Lib.hid (HBAD.out HBAD2.out)
        go_wp2_with (go_at_call 75; refine (HSP.out _).mono ?_; rintro e wp ⟨vP, rfl, hownP, hbp⟩; have r_hbp := keep_rowA hbp; have f_hbp := keep_frA hbp; have s_hbp := hbp.size; (try simp only [World.size_alloc, World.size_setCell, setRow_size, World.size_drew, size_drewNm] at r_hbp f_hbp s_hbp); obtain ⟨g2, cap2, rfl, hg21, hg22, -⟩ := own_strs hownP hpos; clear hownP)
        refine bodyPost_ret (v := .tuple #[.slice (some ⟨wp.heap.size, 0, none⟩) 0 0, .int .i64 5]) (res_tt rfl rfl rfl) rfl ⟨_, by rw [HRD.out.2], by rw [HRD.out.1]; exact own_noneF _ _ (by have := hsz0; omega) _, by repeat' (first | with_reducible exact Below.refl _ _ | with_reducible assumption | with_reducible refine Below.drew ?_ | with_reducible refine Below.drewN ?_ _ | with_reducible refine Below.alloc ?_ ?_ _ | with_reducible refine Below.setCell ?_ ?_ _ | with_reducible refine Below.setRow ?_ ?_ _ | with_reducible refine below_step (by assumption) ?_ ?_ | (show (_ : Nat) ≤ _; first | omega | (simp <;> omega)))⟩
    · have hke : k = W.length := by omega
      subst hke
      have hd : decide ((W.length : Int) < (W.length : Int)) = false := decide_eq_false (by omega)
      have HRD := Lib.hid (rd_some (HF2.out.trans (by have := HSF.out; rw [List.take_length] at this; exact this)))
      go_wp2
      refine bodyPost_ret (v := .tuple #[u4, .int .i64 0]) (res_tt rfl rfl rfl) rfl ⟨_, by rw [HRD.out.2], by rw [HRD.out.1]; exact owns_folds HO.out, by repeat' (first | with_reducible exact Below.refl _ _ | with_reducible assumption | with_reducible refine Below.drew ?_ | with_reducible refine Below.drewN ?_ _ | with_reducible refine Below.alloc ?_ ?_ _ | with_reducible refine Below.setCell ?_ ?_ _ | with_reducible refine Below.setRow ?_ ?_ _ | with_reducible refine below_step (by assumption) ?_ ?_ | (show (_ : Nat) ≤ _; first | omega | (simp <;> omega)))⟩
end Go.Proofs.YtbnhhjjhjjmmjaaDoor
