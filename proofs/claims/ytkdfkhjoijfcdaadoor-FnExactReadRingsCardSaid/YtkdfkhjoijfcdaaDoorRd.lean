/- Several texts in one: Spl FRead MRead Wrap OpenStr SplS ReadI. -/
import Derived.Test.YtkdfkhjoijfcdaaDoorFText
import Derived.Lib.Split
import Derived.Lib.ParseIntB
import Derived.Test.YtkdfkhjoijfcdaaDoorMark
import Derived.Test.YtkdfkhjoijfcdaaDoorBase
import Derived.Handed
import Derived.HandedShaped
import Derived.LaidMore
import Derived.Lay
import Derived.Lib.LaidTab
import Derived.WideShapes
import Derived.ChangeArms
import Derived.Test.YtkdfkhjoijfcdaaDoorFTextI
import Derived.Test.YtkdfkhjoijfcdaaDoorShelfD
import Derived.Stop.LaidErr
/- Words of a text, and numbers of a few digits: plain. -/
namespace Go.Proofs.YtkdfkhjoijfcdaaDoor
set_option linter.unusedVariables false
set_option linter.unusedSimpArgs false
set_option maxRecDepth 100000
/-- A text split at a byte. -/
def glue (p : List UInt8) : List (List UInt8) → List (List UInt8)
  | [] => [p]
  | h :: t => (p ++ h) :: t
def sp (b : UInt8) : List UInt8 → List (List UInt8)
  | [] => [[]]
  | c :: l => if c = b then [] :: sp b l else glue [c] (sp b l)
theorem glue_glue (p q : List UInt8) (x : List (List UInt8)) : glue p (glue q x) = glue (p ++ q) x := by cases x <;> simp [glue]
theorem glue_nil {x : List (List UInt8)} (h : x ≠ []) : glue [] x = x := by cases x <;> simp [glue] at h ⊢
theorem glue_ne (p : List UInt8) (x : List (List UInt8)) : glue p x ≠ [] := by cases x <;> simp [glue]
theorem sp_ne (b : UInt8) (l : List UInt8) : sp b l ≠ [] := by
  cases l with
  | nil => simp [sp]
  | cons c l => unfold sp; split; · simp
                · exact glue_ne _ _
theorem sp_hit {b : UInt8} {l : List UInt8} {i : Nat} (h : l[i]? = some b) (p : List UInt8) : glue p (sp b (l.drop i)) = p :: sp b (l.drop (i + 1)) := by
  obtain ⟨hi, he⟩ := List.getElem?_eq_some_iff.1 h
  rw [List.drop_eq_getElem_cons hi, he, sp, if_pos rfl, glue, List.append_nil]
theorem sp_miss {b c : UInt8} {l : List UInt8} {i : Nat} (h : l[i]? = some c) (hc : c ≠ b) (p : List UInt8) : glue p (sp b (l.drop i)) = glue (p ++ [c]) (sp b (l.drop (i + 1))) := by
  obtain ⟨hi, he⟩ := List.getElem?_eq_some_iff.1 h
  rw [List.drop_eq_getElem_cons hi, he, sp, if_neg hc, glue_glue]
theorem sp_end (b : UInt8) {l : List UInt8} {i : Nat} (h : l.length ≤ i) (p : List UInt8) : glue p (sp b (l.drop i)) = [p] := by
  rw [List.drop_eq_nil_of_le h]; show [p ++ []] = _; rw [List.append_nil]
/-- The piece between two places. -/
def seg (l : List UInt8) (a i : Nat) : List UInt8 := (l.drop a).take (i - a)
theorem seg_same (l : List UInt8) (a : Nat) : seg l a a = [] := by unfold seg; rw [Nat.sub_self]; rfl
theorem seg_next {l : List UInt8} {a i : Nat} {c : UInt8} (h : l[i]? = some c) (ha : a ≤ i) : seg l a (i + 1) = seg l a i ++ [c] := by
  unfold seg
  rw [show i + 1 - a = (i - a) + 1 from by omega, List.take_add_one, List.getElem?_drop, show a + (i - a) = i from by omega, h]; rfl
theorem join_glue (b : UInt8) (p : List UInt8) {x : List (List UInt8)} (h : x ≠ []) : Lib.join (glue p x) [b] = p ++ Lib.join x [b] := by
  cases x with
  | nil => exact absurd rfl h
  | cons y r => rw [glue, Lib.join_cons, Lib.join_cons, List.append_assoc]
theorem join_nilc (b : UInt8) {x : List (List UInt8)} (h : x ≠ []) : Lib.join ([] :: x) [b] = b :: Lib.join x [b] := by
  cases x with
  | nil => exact absurd rfl h
  | cons y r => rw [Lib.join_cons, Lib.join_cons]; rfl
theorem join_sp (b : UInt8) : ∀ l, Lib.join (sp b l) [b] = l
  | [] => Lib.join_one _ _
  | c :: l => by
    unfold sp
    split
    · rename_i h; rw [join_nilc _ (sp_ne _ _), join_sp b l, h]
    · rw [join_glue _ _ (sp_ne _ _), join_sp b l]; rfl
theorem sp_one {b : UInt8} : ∀ {l : List UInt8}, b ∉ l → sp b l = [l]
  | [], _ => rfl
  | c :: l, h => by
    rw [sp, if_neg (fun e => h (by rw [e]; exact List.mem_cons_self)), sp_one (fun e => h (List.mem_cons_of_mem _ e))]; rfl
theorem sp_app {b : UInt8} : ∀ {l : List UInt8}, b ∉ l → ∀ r, sp b (l ++ b :: r) = l :: sp b r
  | [], _, r => by rw [List.nil_append, sp, if_pos rfl]
  | c :: l, h, r => by
    rw [List.cons_append, sp, if_neg (fun e => h (by rw [e]; exact List.mem_cons_self)), sp_app (fun e => h (List.mem_cons_of_mem _ e))]; rfl
theorem sp_join {b : UInt8} : ∀ {x : List UInt8} {r : List (List UInt8)}, (∀ y ∈ x :: r, b ∉ y) → sp b (Lib.join (x :: r) [b]) = x :: r
  | x, [], h => by rw [Lib.join_one, sp_one (h x (by simp))]
  | x, y :: r, h => by
    rw [Lib.join_cons, show Lib.joinTail [b] (y :: r) = b :: (y ++ Lib.joinTail [b] r) by simp [Lib.joinTail], ← Lib.join_cons, sp_app (h x (by simp)), sp_join (fun z hz => h z (List.mem_cons_of_mem _ hz))]
theorem sp_free {b : UInt8} : ∀ {l : List UInt8} {x : List UInt8}, x ∈ sp b l → b ∉ x
  | [], x, h => by simp [sp] at h; subst h; simp
  | c :: l, x, h => by
    unfold sp at h
    split at h
    · rcases List.mem_cons.1 h with rfl | h
      · simp
      · exact sp_free h
    · rename_i hc
      cases hs : sp b l with
      | nil => exact absurd hs (sp_ne _ _)
      | cons y r =>
        rw [hs] at h
        rcases List.mem_cons.1 h with rfl | h
        · intro hb
          rcases List.mem_cons.1 hb with e | hb
          · exact hc e.symm
          · exact sp_free (l := l) (by rw [hs]; exact List.mem_cons_self) hb
        · exact sp_free (l := l) (by rw [hs]; exact List.mem_cons_of_mem _ h)
theorem glue_len (p : List UInt8) {x : List (List UInt8)} (h : x ≠ []) : (glue p x).length = x.length := by
  cases x with
  | nil => exact absurd rfl h
  | cons y r => rfl
theorem sp_len (b : UInt8) : ∀ l, (sp b l).length ≤ l.length + 1
  | [] => Nat.le_refl _
  | c :: l => by
    have := sp_len b l
    unfold sp
    split
    · simp; omega
    · rw [glue_len _ (sp_ne _ _)]; simp; omega
/-- The library's words are the same. -/
theorem index_cons (b c : UInt8) (l : List UInt8) : Lib.index (c :: l) [b] = if c = b then 0 else if Lib.index l [b] == -1 then -1 else Lib.index l [b] + 1 := by
  rw [Lib.index]
  by_cases h : c = b
  · subst h; simp
  · have h2 : ([b].isPrefixOf (c :: l)) = false := by
      show (b == c && true) = false
      rw [Bool.and_true]
      exact beq_false_of_ne (fun e => h e.symm)
    rw [h2, if_neg h]; simp
theorem index_miss {b : UInt8} {l : List UInt8} (h : b ∉ l) : Lib.index l [b] = -1 := by
  induction l with
  | nil => rfl
  | cons c l ih =>
    rw [index_cons, if_neg (fun e => h (by rw [e]; exact List.mem_cons_self)), ih (fun e => h (List.mem_cons_of_mem _ e))]; rfl
theorem index_app {b : UInt8} {l : List UInt8} (h : b ∉ l) (r : List UInt8) : Lib.index (l ++ b :: r) [b] = l.length := by
  induction l with
  | nil => rw [List.nil_append, index_cons, if_pos rfl]; rfl
  | cons c l ih =>
    rw [List.cons_append, index_cons, if_neg (fun e => h (by rw [e]; exact List.mem_cons_self)), ih (fun e => h (List.mem_cons_of_mem _ e))]
    rw [if_neg (by simp)]; simp
theorem split_parts (b : UInt8) (l : List UInt8) : (b ∉ l) ∨ ∃ x r, l = x ++ b :: r ∧ b ∉ x := by
  induction l with
  | nil => exact .inl (by simp)
  | cons c l ih =>
    by_cases h : c = b
    · subst h; exact .inr ⟨[], l, rfl, by simp⟩
    · rcases ih with h2 | ⟨x, r, rfl, hx⟩
      · exact .inl (fun e => by rcases List.mem_cons.1 e with e | e; · exact h e.symm
                                · exact h2 e)
      · exact .inr ⟨c :: x, r, rfl, fun e => by rcases List.mem_cons.1 e with e | e; · exact h e.symm
                                                · exact hx e⟩
theorem splitK_sp (b : UInt8) : ∀ (n : Nat) (l : List UInt8), l.length ≤ n → Lib.splitK [b] 0 (Lib.count l [b]) l = sp b l ∧ Lib.count l [b] + 1 = (sp b l).length := by
  intro n
  induction n with
  | zero =>
    intro l hl
    obtain rfl : l = [] := List.length_eq_zero_iff.1 (by omega)
    exact ⟨rfl, rfl⟩
  | succ n ih =>
    intro l hl
    rcases split_parts b l with h | ⟨x, r, rfl, hx⟩
    · rw [Lib.count_miss (index_miss h), sp_one h]; exact ⟨rfl, rfl⟩
    · have hi := index_app hx r
      have hd : (x ++ b :: r).drop (x.length + 1) = r := by rw [show x ++ b :: r = (x ++ [b]) ++ r by simp, List.drop_left' (by simp)]
      have hc : Lib.count (x ++ b :: r) [b] = 1 + Lib.count r [b] := by
        rw [Lib.count_hit (by simp) hi]; show 1 + Lib.count ((x ++ b :: r).drop (x.length + 1)) [b] = _; rw [hd]
      obtain ⟨h1, h2⟩ := ih r (by simp at hl; omega)
      rw [hc, sp_app hx]
      refine ⟨?_, by simp; omega⟩
      rw [Nat.add_comm 1, Lib.splitK, hi, if_neg (by simp)]
      show ((x ++ b :: r).take x.length) :: Lib.splitK [b] 0 _ ((x ++ b :: r).drop (x.length + 1)) = _
      rw [hd, h1, List.take_left' rfl]
theorem split_is (b : UInt8) (l : List UInt8) : Lib.splitB (tx [b]) 0 (Lib.countB (tx l) (tx [b])) (tx l) = (sp b l).map tx := by
  have h := Lib.splitB_data (tx [b]) 0 (Lib.countB (tx l) (tx [b])) (tx l)
  have h2 : Lib.countB (tx l) (tx [b]) = Lib.count l [b] := rfl
  rw [h2] at h ⊢
  have h3 : Lib.splitK (tx [b]).data.toList 0 (Lib.count l [b]) (tx l).data.toList = sp b l := (splitK_sp b l.length l (Nat.le_refl _)).1
  rw [h3] at h
  rw [← h, List.map_map]
  conv => lhs; rw [← List.map_id (Lib.splitB (tx [b]) 0 (Lib.count l [b]) (tx l))]
  exact List.map_congr_left fun x _ => rfl
theorem count_is (b : UInt8) (l : List UInt8) : Lib.countB (tx l) (tx [b]) + 1 = (sp b l).length := (splitK_sp b l.length l (Nat.le_refl _)).2
/-- Cut at a byte. -/
def cut1 (b : UInt8) (l : List UInt8) : List UInt8 := (Lib.cut l [b]).1
def cut2 (b : UInt8) (l : List UInt8) : List UInt8 := (Lib.cut l [b]).2.1
theorem cut_app {b : UInt8} {l : List UInt8} (h : b ∉ l) (r : List UInt8) : cut1 b (l ++ b :: r) = l ∧ cut2 b (l ++ b :: r) = r := by
  have hd : (l ++ b :: r).drop (l.length + 1) = r := by rw [show l ++ b :: r = (l ++ [b]) ++ r by simp, List.drop_left' (by simp)]
  unfold cut1 cut2 Lib.cut
  rw [index_app h, if_pos (by omega)]
  refine ⟨?_, ?_⟩
  · show (l ++ b :: r).take l.length = l; exact List.take_left' rfl
  · show (l ++ b :: r).drop (l.length + 1) = r; exact hd
theorem cut_miss {b : UInt8} {l : List UInt8} (h : b ∉ l) : cut1 b l = l ∧ cut2 b l = [] := by
  unfold cut1 cut2 Lib.cut
  rw [index_miss h, if_neg (by omega)]; exact ⟨rfl, rfl⟩
theorem cut1_len (b : UInt8) (l : List UInt8) : (cut1 b l).length ≤ l.length := by
  rcases split_parts b l with h | ⟨x, r, rfl, hx⟩
  · rw [(cut_miss h).1]; exact Nat.le_refl _
  · rw [(cut_app hx r).1]; simp
theorem cut2_len (b : UInt8) (l : List UInt8) : (cut2 b l).length ≤ l.length := by
  rcases split_parts b l with h | ⟨x, r, rfl, hx⟩
  · rw [(cut_miss h).2]; simp
  · rw [(cut_app hx r).2]; simp; omega
theorem sp_two {b : UInt8} {l x y : List UInt8} (h : sp b l = [x, y]) : l = x ++ b :: y ∧ b ∉ x ∧ b ∉ y := by
  have h1 := join_sp b l
  rw [h, Lib.join_cons] at h1
  refine ⟨by rw [← h1]; simp [Lib.joinTail], sp_free (l := l) (by rw [h]; simp), sp_free (l := l) (by rw [h]; simp)⟩
/-- The reference's numbers. -/
def digs (acc : Nat) : List UInt8 → Option Nat
  | [] => some acc
  | c :: r => if c.toNat < 48 ∨ 57 < c.toNat then none else digs (10 * acc + (c.toNat - 48)) r
def numB (l : List UInt8) : Option Nat := if l = [] ∨ 9 < l.length ∨ (l[0]? = some 48 ∧ 1 < l.length) then none else digs 0 l
theorem digs_ge : ∀ (l : List UInt8) (acc n : Nat), digs acc l = some n → acc ≤ n
  | [], acc, n, h => by simp [digs] at h; omega
  | c :: r, acc, n, h => by
    unfold digs at h
    split at h
    · cases h
    · have := digs_ge r _ n h; omega
/-- A number below ten is one digit. -/
theorem numB_small {l : List UInt8} {n : Nat} (h : numB l = some n) (hn : n < 10) : l = [by8 (48 + (n : Int))] := by
  unfold numB at h
  split at h
  · cases h
  · rename_i hc
    match l, h, hc with
    | [], _, hc => exact absurd (.inl rfl) hc
    | [c], h, _ =>
      simp only [digs] at h
      split at h
      · cases h
      · rename_i hd
        simp only [Option.some.injEq] at h
        unfold by8
        congr 1
        apply UInt8.toNat_inj.1
        rw [UInt8.toNat_ofNat']
        omega
    | c :: d :: r, h, hc =>
      rw [digs] at h
      split at h
      · cases h
      · rename_i h1
        rw [digs] at h
        split at h
        · cases h
        · rename_i h2
          have := digs_ge r _ n h
          exfalso
          apply hc
          refine .inr (.inr ⟨?_, by simp⟩)
          have hc0 : c.toNat = 48 := by omega
          show some c = some 48
          congr 1
          apply UInt8.toNat_inj.1
          rw [hc0]; rfl
theorem numB_dig {i : Nat} (hi : i < 10) : numB [by8 (48 + (i : Int))] = some i := by
  rcases (by omega : i = 0 ∨ i = 1 ∨ i = 2 ∨ i = 3 ∨ i = 4 ∨ i = 5 ∨ i = 6 ∨ i = 7 ∨ i = 8 ∨ i = 9) with rfl | rfl | rfl | rfl | rfl | rfl | rfl | rfl | rfl | rfl <;> rfl
/-- What the program's parser makes of a text, at eight bits: the number alone. -/
def pi8 (l : List UInt8) : Int := match Lib.parseIntB 8 l with | .ok v => v | .syntax => 0 | .range => Lib.intSat 8 l
theorem pi8_dig {i : Nat} (hi : i < 10) : pi8 [by8 (48 + (i : Int))] = i := by
  rcases (by omega : i = 0 ∨ i = 1 ∨ i = 2 ∨ i = 3 ∨ i = 4 ∨ i = 5 ∨ i = 6 ∨ i = 7 ∨ i = 8 ∨ i = 9) with rfl | rfl | rfl | rfl | rfl | rfl | rfl | rfl | rfl | rfl <;> rfl
theorem seg_le {b : UInt8} {l x : List UInt8} (h : x ∈ sp b l) : x.length ≤ l.length := by
  have hj := join_sp b l
  have key : ∀ (r : List (List UInt8)), x ∈ r → x.length ≤ (Lib.joinTail [b] r).length := by
    intro r
    induction r with
    | nil => intro h; cases h
    | cons y r ih =>
      intro h
      have e : Lib.joinTail [b] (y :: r) = ([b] ++ y) ++ Lib.joinTail [b] r := by simp [Lib.joinTail]
      rw [e, List.length_append, List.length_append]
      rcases List.mem_cons.1 h with rfl | h
      · omega
      · have := ih h; omega
  cases hs : sp b l with
  | nil => rw [hs] at h; cases h
  | cons y r =>
    rw [hs] at h
    rw [hs, Lib.join_cons] at hj
    rw [← hj, List.length_append]
    rcases List.mem_cons.1 h with rfl | h
    · omega
    · have := key r h; omega
end Go.Proofs.YtkdfkhjoijfcdaaDoor
/- Folds read from a text: plain. -/
namespace Go.Proofs.YtkdfkhjoijfcdaaDoor
set_option linter.unusedVariables false
set_option linter.unusedSimpArgs false
set_option maxRecDepth 100000
/-- A digit is not a byte below the digits. -/
theorem by8_toNat {i : Nat} (hi : i < 10) : (by8 (48 + (i : Int))).toNat = 48 + i := by
  unfold by8
  rw [UInt8.toNat_ofNat']; omega
theorem by8_ne {i : Nat} (hi : i < 10) {b : UInt8} (hb : b.toNat < 48) : b ≠ by8 (48 + (i : Int)) := fun e => by
  have := congrArg UInt8.toNat e
  rw [by8_toNat hi] at this
  omega
/-- The fold of a word: the reference. -/
def sfk (k : UInt8) (l v : List UInt8) : Option Fd :=
  match numB l, numB v with
  | some a, some p => if a ≤ 8 ∧ p ≤ 8 ∧ plainB ⟨(a : Int), k == 104, (p : Int)⟩ = true then some ⟨(a : Int), k == 104, (p : Int)⟩ else none
  | _, _ => none
def sfw (w : List UInt8) : Option Fd :=
  match sp 47 w with
  | [k :: d :: r, v] => if k = 118 ∨ k = 104 then sfk k (d :: r) v else none
  | _ => none
def sfs : List (List UInt8) → Option (List Fd)
  | [] => some []
  | w :: r => match sfw w with
    | none => none
    | some x => match sfs r with
      | none => none
      | some l => some (x :: l)
def sFolds (t : List UInt8) : Option (List Fd) := if t = [] then some [] else if 30 < (sp 32 t).length then none else sfs (sp 32 t)
/-- The program's. -/
def ifw (w : List UInt8) : Fd := ⟨IntKind.i8.wrap (pi8 (cut1 47 (w.drop 1))), w[0]? == some 104, IntKind.i8.wrap (pi8 (cut2 47 (w.drop 1)))⟩
def ifs : List (List UInt8) → List Fd
  | [] => []
  | w :: r => if w = [] then ifs r else ifw w :: ifs r
def iFolds (t : List UInt8) : List Fd := ifs (sp 32 t)
def fnOf (L : List Fd) : Nat → Fd := fun k => L.getD k ⟨0, false, 0⟩
theorem plain_nat {x : Fd} (h : plainB x = true) : ∃ a p : Nat, 1 ≤ a ∧ a ≤ 7 ∧ 1 ≤ p ∧ p ≤ 8 ∧ x = ⟨(a : Int), x.d, (p : Int)⟩ := by
  obtain ⟨⟨h1, h2⟩, h3, h4⟩ := plainB_true h
  obtain ⟨a, d, p⟩ := x
  simp only at h1 h2 h3 h4
  refine ⟨a.toNat, p.toNat, by omega, by omega, by omega, by omega, ?_⟩
  rw [Int.toNat_of_nonneg (by omega), Int.toNat_of_nonneg (by omega)]
theorem kind_ne (d : Bool) {b : UInt8} (hb : b.toNat < 48) : b ≠ kindB d := fun e => by
  subst e
  cases d <;> (revert hb; decide)
theorem fold_free {x : Fd} (h : plainB x = true) : (32 : UInt8) ∉ foldTx x := by
  obtain ⟨a, p, h1, h2, h3, h4, hx⟩ := plain_nat h
  rw [hx]
  unfold foldTx
  intro hm
  simp only [List.mem_cons, List.not_mem_nil, or_false] at hm
  rcases hm with e | e | e | e
  · exact kind_ne _ (by decide) e
  · exact by8_ne (by omega) (by decide) e
  · revert e; decide
  · exact by8_ne (by omega) (by decide) e
theorem fold_sp {x : Fd} (h : plainB x = true) : sp 47 (foldTx x) = [[kindB x.d, by8 (48 + x.a)], [by8 (48 + x.p)]] := by
  obtain ⟨a, p, h1, h2, h3, h4, hx⟩ := plain_nat h
  rw [hx]
  have e1 : (47 : UInt8) ∉ [kindB x.d, by8 (48 + (a : Int))] := fun hm => by
    simp only [List.mem_cons, List.not_mem_nil, or_false] at hm
    rcases hm with e | e
    · exact kind_ne _ (by decide) e
    · exact by8_ne (by omega) (by decide) e
  have e2 : (47 : UInt8) ∉ [by8 (48 + (p : Int))] := fun hm => by
    simp only [List.mem_cons, List.not_mem_nil, or_false] at hm
    exact by8_ne (by omega) (by decide) hm
  show sp 47 ([kindB x.d, by8 (48 + (a : Int))] ++ 47 :: [by8 (48 + (p : Int))]) = _
  rw [sp_app e1, sp_one e2]
theorem kind_is (d : Bool) : (kindB d == 104) = d := by cases d <;> rfl
theorem kind_or (d : Bool) : kindB d = 118 ∨ kindB d = 104 := by cases d <;> decide
theorem sfw_fold {x : Fd} (h : plainB x = true) : sfw (foldTx x) = some x := by
  have h0 := h
  obtain ⟨a, p, h1, h2, h3, h4, hx⟩ := plain_nat h
  unfold sfw
  rw [fold_sp h]
  simp only [if_pos (kind_or x.d)]
  unfold sfk
  have ha : x.a = (a : Int) := by rw [hx]
  have hp : x.p = (p : Int) := by rw [hx]
  rw [ha, hp, numB_dig (by omega), numB_dig (by omega)]
  simp only [kind_is]
  rw [← hx, if_pos ⟨by omega, by omega, h0⟩]
theorem sfw_some {w : List UInt8} {x : Fd} (h : sfw w = some x) : w = foldTx x ∧ plainB x = true := by
  unfold sfw at h
  split at h
  · rename_i k d r v hs
    split at h
    · rename_i hk
      unfold sfk at h
      split at h
      · rename_i a p ha hp
        split at h
        · rename_i hc
          simp only [Option.some.injEq] at h
          subst h
          refine ⟨?_, hc.2.2⟩
          rw [(sp_two hs).1, numB_small ha (by omega), numB_small hp (by omega)]
          unfold foldTx
          rcases hk with rfl | rfl <;> rfl
        · cases h
      · cases h
    · cases h
  · cases h
theorem ifw_fold {x : Fd} (h : plainB x = true) : ifw (foldTx x) = x := by
  obtain ⟨a, p, h1, h2, h3, h4, hx⟩ := plain_nat h
  have ha : x.a = (a : Int) := by rw [hx]
  have hp : x.p = (p : Int) := by rw [hx]
  have e1 : (47 : UInt8) ∉ [by8 (48 + (a : Int))] := fun hm => by
    simp only [List.mem_cons, List.not_mem_nil, or_false] at hm
    exact by8_ne (by omega) (by decide) hm
  have hd : (foldTx x).drop 1 = [by8 (48 + (a : Int))] ++ 47 :: [by8 (48 + (p : Int))] := by unfold foldTx; rw [ha, hp]; rfl
  have h0 : ((foldTx x)[0]? == some 104) = x.d := by
    show (some (kindB x.d) == some 104) = x.d
    cases x.d <;> rfl
  unfold ifw
  rw [hd, (cut_app e1 _).1, (cut_app e1 _).2, pi8_dig (by omega), pi8_dig (by omega), h0]
  rw [hx]
  congr 1
  · simp only [IntKind.wrap, IntKind.bits, IntKind.signed]; simp; omega
  · simp only [IntKind.wrap, IntKind.bits, IntKind.signed]; simp; omega
theorem sfs_some : ∀ {l : List (List UInt8)} {L : List Fd}, sfs l = some L → l = L.map foldTx ∧ ∀ x ∈ L, plainB x = true
  | [], L, h => by simp [sfs] at h; subst h; exact ⟨rfl, fun x hx => by cases hx⟩
  | w :: r, L, h => by
    unfold sfs at h
    split at h
    · cases h
    · rename_i x hx
      split at h
      · cases h
      · rename_i l hl
        simp only [Option.some.injEq] at h
        subst h
        obtain ⟨h1, h2⟩ := sfs_some hl
        obtain ⟨h3, h4⟩ := sfw_some hx
        refine ⟨by rw [List.map_cons, ← h3, ← h1], fun y hy => ?_⟩
        rcases List.mem_cons.1 hy with rfl | hy
        · exact h4
        · exact h2 y hy
theorem sfs_folds : ∀ {L : List Fd}, (∀ x ∈ L, plainB x = true) → sfs (L.map foldTx) = some L
  | [], _ => rfl
  | x :: L, h => by rw [List.map_cons, sfs, sfw_fold (h x (by simp)), sfs_folds (fun y hy => h y (List.mem_cons_of_mem _ hy))]
theorem ifs_folds : ∀ {L : List Fd}, (∀ x ∈ L, plainB x = true) → ifs (L.map foldTx) = L
  | [], _ => rfl
  | x :: L, h => by rw [List.map_cons, ifs, if_neg (by unfold foldTx; simp), ifw_fold (h x (by simp)), ifs_folds (fun y hy => h y (List.mem_cons_of_mem _ hy))]
theorem fnOf_at {L : List Fd} {k : Nat} (h : k < L.length) : fnOf L k = L[k] := by unfold fnOf; rw [List.getD_eq_getElem?_getD, List.getElem?_eq_getElem h]; rfl
theorem foldW_take (L : List Fd) : ∀ k, k ≤ L.length → foldW (fnOf L) k = (L.take k).map foldTx
  | 0, _ => rfl
  | k + 1, h => by
    show foldW (fnOf L) k ++ [foldTx (fnOf L k)] = _
    rw [foldW_take L k (by omega), fnOf_at (by omega), List.take_add_one, List.getElem?_eq_getElem (by omega), List.map_append]; rfl
theorem folds_join (L : List Fd) : foldsTx (fnOf L) L.length = Lib.join (L.map foldTx) [32] := by
  rw [← foldW_join, foldW_take L _ (Nat.le_refl _), List.take_length]
theorem foTo_all {L : List Fd} (h : ∀ x ∈ L, plainB x = true) : FoTo (fnOf L) L.length := fun k hk => by
  rw [fnOf_at hk]; exact plainB_true (h _ (List.getElem_mem hk))
theorem all_foTo {L : List Fd} (h : FoTo (fnOf L) L.length) : ∀ x ∈ L, plainB x = true := fun x hx => by
  obtain ⟨k, hk, rfl⟩ := List.getElem_of_mem hx
  have := h k hk
  rw [fnOf_at hk] at this
  unfold plainB
  rw [inB_true.2 this.1, inB_true.2 this.2]; rfl
open Classical in
theorem foB_to {F : Nat → Fd} {n : Nat} (h : foB F n = true) : FoTo F n ∧ n ≤ 30 := by
  unfold foB at h
  rw [Bool.and_eq_true] at h
  exact ⟨of_decide_eq_true h.1, of_decide_eq_true h.2⟩
/-- The law. -/
theorem folds_read (t : List UInt8) : (∃ L, sFolds t = some L ∧ iFolds t = L ∧ fTx (fnOf L) L.length = t) ∨ (sFolds t = none ∧ fTx (fnOf (iFolds t)) (iFolds t).length ≠ t) := by
  cases hs : sFolds t with
  | some L =>
    refine .inl ⟨L, rfl, ?_⟩
    unfold sFolds at hs
    split at hs
    · rename_i ht
      simp only [Option.some.injEq] at hs
      subst hs ht
      exact ⟨rfl, fTx_yes (fun k hk => absurd hk (Nat.not_lt_zero _)) (by simp)⟩
    · split at hs
      · cases hs
      · rename_i ht hl
        obtain ⟨h1, h2⟩ := sfs_some hs
        refine ⟨by unfold iFolds; rw [h1, ifs_folds h2], ?_⟩
        rw [fTx_yes (foTo_all h2) (by have := congrArg List.length h1; rw [List.length_map] at this; omega), folds_join, ← h1, join_sp]
  | none =>
    refine .inr ⟨rfl, fun he => ?_⟩
    generalize iFolds t = L at he
    have ht : t ≠ [] := fun e => by rw [e] at hs; cases hs
    unfold fTx at he
    split at he
    · rename_i hb
      obtain ⟨h1, h2⟩ := foB_to hb
      rw [folds_join] at he
      have hp := all_foTo h1
      have hsp : sp 32 t = L.map foldTx := by
        cases L with
        | nil => exact absurd he.symm ht
        | cons x r =>
          rw [← he]
          refine sp_join (fun y hy => ?_)
          obtain ⟨z, hz, rfl⟩ := List.mem_map.1 (show y ∈ List.map foldTx (x :: r) from hy)
          exact fold_free (hp z hz)
      unfold sFolds at hs
      rw [if_neg ht, hsp, if_neg (by rw [List.length_map]; omega), sfs_folds hp] at hs
      cases hs
    · exact ht he.symm
end Go.Proofs.YtkdfkhjoijfcdaaDoor
/- A mark read from a text: plain. -/
namespace Go.Proofs.YtkdfkhjoijfcdaaDoor
set_option linter.unusedVariables false
set_option linter.unusedSimpArgs false
set_option maxRecDepth 100000
/-- The cell of a word: the reference. -/
def scw (w : List UInt8) : Option (Int × Int) :=
  match sp 44 w with
  | [u, v] => match numB u, numB v with
    | some x, some y => if x < 8 ∧ y < 8 then some ((x : Int), (y : Int)) else none
    | _, _ => none
  | _ => none
def scs : List (List UInt8) → Option (List (Int × Int))
  | [] => some []
  | w :: r => match scw w with
    | none => none
    | some x => match scs r with
      | none => none
      | some l => some (x :: l)
def colS (w : List UInt8) : Int := if w = [97] then 0 else if w = [98] then 1 else if w = [99] then 2 else -1
def sMark (t : List UInt8) : Option (Int × List (Int × Int)) :=
  match sp 32 t with
  | [] => none
  | c :: r => if r.length < 1 ∨ 64 < r.length then none else match scs r with
    | none => none
    | some L => if colS c = -1 then none else some (colS c, L)
/-- The program's. -/
def icw (w : List UInt8) : Int × Int := (IntKind.i8.wrap (pi8 (cut1 44 w)), IntKind.i8.wrap (pi8 (cut2 44 w)))
def colI (w : List UInt8) : Int := IntKind.i8.wrap (Lib.index [97, 98, 99] w)
def iMark (t : List UInt8) : Int × List (Int × Int) :=
  match sp 32 t with
  | [] => (0, [])
  | c :: r => (colI c, r.map icw)
def gOf (L : List (Int × Int)) : Nat → Int := fun j => if j % 2 = 0 then (L.getD (j / 2) (0, 0)).1 else (L.getD (j / 2) (0, 0)).2
theorem gOf_even {L : List (Int × Int)} {k : Nat} (h : k < L.length) : gOf L (k * 2) = L[k].1 := by
  unfold gOf
  rw [if_pos (by omega), show k * 2 / 2 = k from by omega, List.getD_eq_getElem?_getD, List.getElem?_eq_getElem h]; rfl
theorem gOf_odd {L : List (Int × Int)} {k : Nat} (h : k < L.length) : gOf L (k * 2 + 1) = L[k].2 := by
  unfold gOf
  rw [if_neg (by omega), show (k * 2 + 1) / 2 = k from by omega, List.getD_eq_getElem?_getD, List.getElem?_eq_getElem h]; rfl
def inP (p : Int × Int) : Prop := (0 ≤ p.1 ∧ p.1 ≤ 7) ∧ 0 ≤ p.2 ∧ p.2 ≤ 7
def wordP (p : Int × Int) : List UInt8 := [by8 (48 + p.1), 44, by8 (48 + p.2)]
theorem inP_nat {p : Int × Int} (h : inP p) : ∃ a b : Nat, a ≤ 7 ∧ b ≤ 7 ∧ p = ((a : Int), (b : Int)) := by
  obtain ⟨⟨h1, h2⟩, h3, h4⟩ := h
  exact ⟨p.1.toNat, p.2.toNat, by omega, by omega, by rw [Int.toNat_of_nonneg h1, Int.toNat_of_nonneg h3]⟩
theorem dig_no {a : Nat} (ha : a < 10) {b : UInt8} (hb : b.toNat < 48) : b ∉ [by8 (48 + (a : Int))] := fun hm => by
  simp only [List.mem_cons, List.not_mem_nil, or_false] at hm
  exact by8_ne ha hb hm
theorem wordP_free {p : Int × Int} (h : inP p) : (32 : UInt8) ∉ wordP p := by
  obtain ⟨a, b, ha, hb, rfl⟩ := inP_nat h
  intro hm
  unfold wordP at hm
  simp only [List.mem_cons, List.not_mem_nil, or_false] at hm
  rcases hm with e | e | e
  · exact by8_ne (by omega) (by decide) e
  · revert e; decide
  · exact by8_ne (by omega) (by decide) e
theorem scw_word {p : Int × Int} (h : inP p) : scw (wordP p) = some p := by
  obtain ⟨a, b, ha, hb, rfl⟩ := inP_nat h
  unfold scw
  have e : sp 44 (wordP ((a : Int), (b : Int))) = [[by8 (48 + (a : Int))], [by8 (48 + (b : Int))]] := by
    show sp 44 ([by8 (48 + (a : Int))] ++ 44 :: [by8 (48 + (b : Int))]) = _
    rw [sp_app (dig_no (by omega) (by decide)), sp_one (dig_no (by omega) (by decide))]
  rw [e]
  simp only [numB_dig (show a < 10 from by omega), numB_dig (show b < 10 from by omega)]
  rw [if_pos ⟨by omega, by omega⟩]
theorem scw_some {w : List UInt8} {p : Int × Int} (h : scw w = some p) : w = wordP p ∧ inP p := by
  unfold scw at h
  split at h
  · rename_i u v hs
    split at h
    · rename_i x y hx hy
      split at h
      · rename_i hc
        simp only [Option.some.injEq] at h
        subst h
        refine ⟨?_, ⟨by omega, by simp only; omega⟩, by simp only; omega, by simp only; omega⟩
        rw [(sp_two hs).1, numB_small hx (by omega), numB_small hy (by omega)]; rfl
      · cases h
    · cases h
  · cases h
theorem wrap8_in {n : Int} (h : -128 ≤ n ∧ n ≤ 127) : IntKind.i8.wrap n = n := by simp only [IntKind.wrap, IntKind.bits, IntKind.signed]; simp; omega
theorem icw_word {p : Int × Int} (h : inP p) : icw (wordP p) = p := by
  obtain ⟨a, b, ha, hb, rfl⟩ := inP_nat h
  unfold icw
  have e : wordP ((a : Int), (b : Int)) = [by8 (48 + (a : Int))] ++ 44 :: [by8 (48 + (b : Int))] := rfl
  rw [e, (cut_app (dig_no (by omega) (by decide)) _).1, (cut_app (dig_no (by omega) (by decide)) _).2, pi8_dig (by omega), pi8_dig (by omega), wrap8_in (by omega), wrap8_in (by omega)]
theorem scs_some : ∀ {l : List (List UInt8)} {L : List (Int × Int)}, scs l = some L → l = L.map wordP ∧ ∀ x ∈ L, inP x
  | [], L, h => by simp [scs] at h; subst h; exact ⟨rfl, fun x hx => by cases hx⟩
  | w :: r, L, h => by
    unfold scs at h
    split at h
    · cases h
    · rename_i x hx
      split at h
      · cases h
      · rename_i l hl
        simp only [Option.some.injEq] at h
        subst h
        obtain ⟨h1, h2⟩ := scs_some hl
        obtain ⟨h3, h4⟩ := scw_some hx
        refine ⟨by rw [List.map_cons, ← h3, ← h1], fun y hy => ?_⟩
        rcases List.mem_cons.1 hy with rfl | hy
        · exact h4
        · exact h2 y hy
theorem scs_words : ∀ {L : List (Int × Int)}, (∀ x ∈ L, inP x) → scs (L.map wordP) = some L
  | [], _ => rfl
  | x :: L, h => by rw [List.map_cons, scs, scw_word (h x (by simp)), scs_words (fun y hy => h y (List.mem_cons_of_mem _ hy))]
theorem ics_words : ∀ {L : List (Int × Int)}, (∀ x ∈ L, inP x) → (L.map wordP).map icw = L
  | [], _ => rfl
  | x :: L, h => by rw [List.map_cons, List.map_cons, icw_word (h x (by simp)), ics_words (fun y hy => h y (List.mem_cons_of_mem _ hy))]
theorem cellsTx_take (L : List (Int × Int)) : ∀ k, k ≤ L.length → cellsTx (gOf L) k = Lib.joinTail [32] ((L.take k).map wordP)
  | 0, _ => rfl
  | k + 1, h => by
    rw [cellsTx, cellsTx_take L k (by omega), List.take_add_one, List.getElem?_eq_getElem (by omega), List.map_append, gOf_even (by omega), gOf_odd (by omega)]
    exact (joinTail_snoc _ _ _).symm
theorem cells_join (c : List UInt8) (L : List (Int × Int)) : c ++ cellsTx (gOf L) L.length = Lib.join (c :: L.map wordP) [32] := by
  rw [Lib.join_cons, cellsTx_take L _ (Nat.le_refl _), List.take_length]
theorem cellsTo_all {L : List (Int × Int)} (h : ∀ x ∈ L, inP x) : CellsTo (gOf L) L.length := fun k hk => by
  rw [gOf_even hk, gOf_odd hk]; exact h _ (List.getElem_mem hk)
theorem all_cellsTo {L : List (Int × Int)} (h : CellsTo (gOf L) L.length) : ∀ x ∈ L, inP x := fun x hx => by
  obtain ⟨k, hk, rfl⟩ := List.getElem_of_mem hx
  have := h k hk
  rwa [gOf_even hk, gOf_odd hk] at this
theorem colS_cases {c : List UInt8} (h : colS c ≠ -1) : (c = [97] ∧ colS c = 0) ∨ (c = [98] ∧ colS c = 1) ∨ (c = [99] ∧ colS c = 2) := by
  unfold colS at h ⊢
  split at h
  · rename_i e; rw [if_pos e]; exact .inl ⟨e, rfl⟩
  · split at h
    · rename_i e1 e; rw [if_neg e1, if_pos e]; exact .inr (.inl ⟨e, rfl⟩)
    · split at h
      · rename_i e1 e2 e; rw [if_neg e1, if_neg e2, if_pos e]; exact .inr (.inr ⟨e, rfl⟩)
      · exact absurd rfl h
theorem col_same {c : List UInt8} (h : colS c ≠ -1) : colI c = colS c ∧ c = [by8 (97 + colS c)] ∧ (colS c = 0 ∨ colS c = 1 ∨ colS c = 2) := by
  rcases colS_cases h with ⟨e, h⟩ | ⟨e, h⟩ | ⟨e, h⟩ <;> (rw [h, e]; refine ⟨by rfl, by rfl, by simp⟩)
/-- The law. -/
theorem mark_read (t : List UInt8) : (∃ col L, sMark t = some (col, L) ∧ iMark t = (col, L) ∧ t ≠ [] ∧ markTx col (gOf L) L.length = t) ∨ (sMark t = none ∧ (t = [] ∨ markTx (iMark t).1 (gOf (iMark t).2) (iMark t).2.length ≠ t)) := by
  cases hs : sMark t with
  | some q =>
    obtain ⟨col, L⟩ := q
    refine .inl ⟨col, L, rfl, ?_⟩
    have hj := join_sp 32 t
    unfold sMark at hs
    unfold iMark
    split at hs
    · cases hs
    · rename_i c r hsp
      rw [hsp] at hj
      try rw [hsp]
      split at hs
      · cases hs
      · rename_i hl
        split at hs
        · cases hs
        · rename_i L' hL
          split at hs
          · cases hs
          · rename_i hc
            simp only [Option.some.injEq, Prod.mk.injEq] at hs
            obtain ⟨rfl, rfl⟩ := hs
            obtain ⟨h1, h2⟩ := scs_some hL
            obtain ⟨h3, h4, h5⟩ := col_same hc
            have hlen : L'.length = r.length := by rw [h1, List.length_map]
            refine ⟨by rw [h3, h1, ics_words h2], ?_, ?_⟩
            · intro e
              rw [← hj, h4, Lib.join_cons] at e
              cases e
            have hm : markB (colS c) (gOf L') L'.length = true := by
              unfold markB
              rw [inB_true.2 (show 0 ≤ colS c ∧ colS c ≤ 2 by omega), inB_true.2 (show 1 ≤ (L'.length : Int) ∧ (L'.length : Int) ≤ 64 by omega), cells8_yes (cellsTo_all h2)]; rfl
            rw [markTx_yes hm, ← h4, cells_join, ← h1, hj]
  | none =>
    refine .inr ⟨rfl, ?_⟩
    by_cases ht : t = []
    · exact .inl ht
    refine .inr (fun he => ?_)
    generalize (iMark t).1 = col at he
    generalize (iMark t).2 = L at he
    unfold markTx at he
    split at he
    · rename_i hb
      unfold markB at hb
      rw [Bool.and_eq_true, Bool.and_eq_true] at hb
      have h1 := inB_true.1 hb.1.1
      have h2 := inB_true.1 hb.1.2
      have h3 := cells8_to hb.2
      rw [cells_join] at he
      have hp := all_cellsTo h3
      have h97 : (32 : UInt8) ∉ [by8 (97 + col)] ∧ colS [by8 (97 + col)] = col := by
        rcases (by omega : col = 0 ∨ col = 1 ∨ col = 2) with rfl | rfl | rfl <;> exact ⟨by decide, by rfl⟩
      have hsp : sp 32 t = [by8 (97 + col)] :: L.map wordP := by
        rw [← he]
        refine sp_join (fun y hy => ?_)
        rcases List.mem_cons.1 hy with rfl | hy
        · exact h97.1
        · obtain ⟨z, hz, rfl⟩ := List.mem_map.1 hy
          exact wordP_free (hp z hz)
      unfold sMark at hs
      rw [hsp] at hs
      simp only [List.length_map] at hs
      rw [if_neg (by omega), scs_words hp] at hs
      simp only [h97.2] at hs
      rw [if_neg (by omega)] at hs
      cases hs
    · exact ht he.symm
end Go.Proofs.YtkdfkhjoijfcdaaDoor
/- The wrap of a card's row: the walk is handed the world's shape and the laid variables. -/
namespace Go.Proofs.YtkdfkhjoijfcdaaDoor
set_option linter.unusedVariables false
set_option linter.unusedSimpArgs false
set_option maxRecDepth 100000
theorem wrap_both {H : Type} {enc : TypeId × Value → H} {a : Assume} {C : Checked} {os : Os} {f : FuncId} {fn : Func} {s : ChangeSpec} {conds : List PathCond} {apart fresh handsOn again : Bool} {X : World → Array Value → Prop}
    (hX : ∀ (w w' : World) (args : Array Value), w.heap = w'.heap → X w args → X w' args)
    (own : ownKnob C.prog.godebug = none) (started : os.Started) (noInit : C.prog.inits.idxOf? f = none) (hfn : C.prog.funcs[f]? = some fn)
    (witness : ∃ (w : World) (tape : Tape) (i : Input), w.os = os ∧ (w.forCall tape i).Shaped C.prog ∧ i.vars = [] ∧ Input.okWide C.prog (w.forCall tape i) .any w.heap.size f i ∧
      ((s.pre enc C.prog fn conds apart (w.forCall tape i).memory i.args ∧ X (w.forCall tape i).memory i.args) ∧ sizedMet enc C.prog fn (OpenSpec.ofChange s) apart (w.forCall tape i).memory i.args) ∧ a.holds C.prog (lone (Frame.enter C.prog f i.args .normal) [] (w.forCall tape i)))
    (contract : ∀ (W : World) (base : Nat) (args : Array Value) (ds gs : List (DataW H)) (before : List MemPlace),
      (∀ (j : Nat) t v, fn.params[j]? = some t → args[j]? = some v → Value.okWide C.prog W .any base t v) →
      DataW.Whole enc C.prog fn.params.toList s.vars apart W args.toList ds gs before →
      conds.all (PathCond.test C.prog ⟨fn.params.toList, ds, s.plain.varTypes C.prog, gs⟩) = true →
      (DataW.weightsEach C.prog (fn.params.toList ++ s.plain.varTypes C.prog) (ds ++ gs)).all (· ≤ reachBytes) = true → X W args → W.ShapedOpen C.prog →
      Calls C.prog f args W fun e W' => ∃ v, e = .returned v ∧ s.post enc C.prog fn apart fresh handsOn again W args v W') :
    ReturnsInHanded a C os f .any (fun w args => (s.pre enc C.prog fn conds apart w args ∧ X w args) ∧ sizedMet enc C.prog fn (OpenSpec.ofChange s) apart w args) (s.post enc C.prog fn apart fresh handsOn again) := by
  refine returnsInHanded_of_calls own started noInit witness ?_
  intro w tape i _ hsh _ hok hpre hholds
  obtain ⟨_, _, _, fn', hfn', _, _, _, _, hval⟩ := hok
  have e : fn' = fn := Option.some.inj (hfn'.symm.trans hfn)
  subst e
  obtain ⟨⟨⟨ds, gs, before, hw, hc⟩, hx⟩, hz⟩ := hpre
  have hw' := DataW.Whole.of_heap (w' := w.forCall tape i) (by rfl) hw
  refine (contract (w.forCall tape i) w.heap.size i.args ds gs before hval hw' hc (hz.weights hw) (hX _ _ _ (by rfl) hx) hsh).mono fun e W' ⟨v, he, hp⟩ => ?_
  subst he
  exact ChangeSpec.post_blind hp
theorem laid_tail {P : Program} {x : String × DataW Unit} {r : List (String × DataW Unit)} {W : World} (h : laidMet P (x :: r) W) : ∃ ps, DataW.LaidVars P W r ps := by
  obtain ⟨ps, hv, -⟩ := h
  obtain ⟨n, d⟩ := x
  obtain ⟨g', t', cs, fuel, p, q, hg', ht', hvar, hd, hr, _⟩ := hv
  exact ⟨_, hr⟩
theorem vars_tail {P : Program} {x : String × DataW Unit} {r : List (String × DataW Unit)} {W : World} {ps : List MemPlace} (h : DataW.LaidVars P W (x :: r) ps) : ∃ ps, DataW.LaidVars P W r ps := by
  obtain ⟨n, d⟩ := x
  obtain ⟨g', t', cs, fuel, p, q, hg', ht', hvar, hd, hr, _⟩ := h
  exact ⟨_, hr⟩
theorem tab_of_vars {P : Program} {W : World} {name : String} {k : IntKind} {zs : List Int} {rest : List (String × DataW Unit)} {g : Nat} {t e : TypeId} {n : Nat} {ps : List MemPlace}
    (hg : P.globalNamed name = some g) (hty : (P.globals[g]?).map (·.type) = some t) (ht : P.underlying t = some (.array n e)) (he : P.underlying e = some (.int k)) (hce : P.cellsOf e = 1) (hct : P.cellsOf t = n)
    (h : DataW.LaidVars P W ((name, Lib.tabData k zs) :: rest) ps) : Lib.TabIs P W name k zs := by
  obtain ⟨g', t', cs, fuel, p, q, hg', ht', hvar, hd, _, _⟩ := h
  obtain rfl := Option.some.inj (hg.symm.trans hg')
  obtain rfl := Option.some.inj (hty.symm.trans ht')
  unfold Lib.TabIs
  rw [hvar, ← Lib.cells_of_tab ht he hce hct hd]
end Go.Proofs.YtkdfkhjoijfcdaaDoor
/- A text among the arguments. -/
namespace Go.Proofs.YtkdfkhjoijfcdaaDoor
open Go.WideShapes Go.ChangeShapes
set_option linter.unusedVariables false
set_option linter.unusedSimpArgs false
set_option maxRecDepth 100000
theorem open_str {H : Type} {enc : TypeId × Value → H} {P : Program} {w : World} {base : Nat} {sp : Nat → Bool} {held : Bool} {r : Reach} {b0 : Nat} {t : TypeId} {v : Value} {d : DataW H} {ps : List MemPlace} (ht : P.underlying t = some .string) (hval : Value.okWide P w r b0 t v) (hd : DataW.Trod enc P w base sp held t v d ps) :
    ∃ s : ByteArray, v = .string s ∧ s.size ≤ maxLen := by
  obtain ⟨s, rfl⟩ := okWide_string ht hval
  obtain ⟨fuel, hf⟩ := hd
  obtain ⟨s', h, hx, hs⟩ := DataW.trod_string ht hf
  simp [Value.cells] at h
  subst h
  exact ⟨s, rfl, hs⟩
end Go.Proofs.YtkdfkhjoijfcdaaDoor
/- The reference's words and numbers. -/
namespace Go.Proofs.YtkdfkhjoijfcdaaDoor
open Go.RowKit
set_option linter.unusedVariables false
set_option linter.unusedSimpArgs false
set_option maxRecDepth 100000
attribute [go_sem] tx_list
/-- A byte of a text. -/
def chX (t : TypeId) (s i : Value) : Sem Value := Instr.index t s i
def chR (o : Option UInt8) (w : World) (r : Result Value) : Result Value := match o with | some c => .ok (.int .u8 (c.toNat : Int)) w | none => r
@[go_sem] theorem chR_some (c : UInt8) (w : World) (r : Result Value) : chR (some c) w r = .ok (.int .u8 (c.toNat : Int)) w := rfl
@[go_sem ↓] theorem chr_at (l : List UInt8) (i : Nat) (k : IntKind) (w : World) : (Instr.index 9 (.string (tx l)) (.int k (i : Int))).run Tryd.prog w = chR (l[i]?) w ((chX 9 (.string (tx l)) (.int k (i : Int))).run Tryd.prog w) := by
  unfold chR
  split
  · rename_i c hc
    obtain ⟨hi, he⟩ := List.getElem?_eq_some_iff.1 hc
    rw [run_index_string _ _ _ _ _ Tryd.underlying9, dif_pos ⟨by omega, by rw [tx_size]; omega⟩]
    have : (tx l)[(i : Int).toNat]'(by rw [tx_size, Int.toNat_natCast]; exact hi) = l[i] := rfl
    rw [this, he]
  · rfl
@[go_sem ↓] theorem chr_at0 (l : List UInt8) (k : IntKind) (w : World) : (Instr.index 9 (.string (tx l)) (.int k 0)).run Tryd.prog w = chR (l[0]?) w ((chX 9 (.string (tx l)) (.int k 0)).run Tryd.prog w) := chr_at l 0 k w
/-- A piece of a text. -/
def sgX (t : TypeId) (s : Value) (a b c : Option Value) : Sem Value := Instr.slice t s a b c
@[go_sem ↓] theorem seg_at (l : List UInt8) (a i : Nat) (k k' : IntKind) (w : World) : (Instr.slice 9 (.string (tx l)) (some (.int k (a : Int))) (some (.int k' (i : Int))) none).run Tryd.prog w = selLe i l.length (selLe a i (.ok (.string (tx (seg l a i))) w) ((sgX 9 (.string (tx l)) (some (.int k (a : Int))) (some (.int k' (i : Int))) none).run Tryd.prog w)) ((sgX 9 (.string (tx l)) (some (.int k (a : Int))) (some (.int k' (i : Int))) none).run Tryd.prog w) := by
  unfold selLe
  split
  · split
    · rename_i h1 h2
      rw [run_slice_string w _ _ _ _ _ _ Tryd.underlying9 (by omega) (by omega) (by rw [tx_size]; omega)]
      show Result.ok (Value.string ((tx l).extract a i)) w = _
      unfold tx seg
      rw [ByteArray.extract_mk]
    · rfl
  · rfl
@[go_sem ↓] theorem seg_from (l : List UInt8) (a : Nat) (k : IntKind) (w : World) : (Instr.slice 9 (.string (tx l)) (some (.int k (a : Int))) none none).run Tryd.prog w = selLe a l.length (.ok (.string (tx (l.drop a))) w) ((sgX 9 (.string (tx l)) (some (.int k (a : Int))) none none).run Tryd.prog w) := by
  unfold selLe
  split
  · rename_i h1
    rw [run_slice_string_l w _ _ Tryd.underlying9 _ _ (by omega) (by rw [tx_size]; omega), tx_size]
    show Result.ok (Value.string ((tx l).extract a l.length)) w = _
    unfold tx
    rw [ByteArray.extract_mk, List.take_of_length_le (by rw [List.length_drop]; omega)]
  · rfl
/-- What stands behind the first byte. -/
def rest1 (l : List UInt8) : List UInt8 := l.drop 1
@[go_sem ↓] theorem seg_from1 (l : List UInt8) (k : IntKind) (w : World) : (Instr.slice 9 (.string (tx l)) (some (.int k 1)) none none).run Tryd.prog w = selLe 1 l.length (.ok (.string (tx (rest1 l))) w) ((sgX 9 (.string (tx l)) (some (.int k 1)) none none).run Tryd.prog w) := seg_from l 1 k w
theorem seg_end (l : List UInt8) (a : Nat) : seg l a l.length = l.drop a := by
  unfold seg
  rw [List.take_of_length_le (by rw [List.length_drop]; omega)]
theorem strV_snoc (D : List (List UInt8)) (x : List UInt8) : strV (D ++ [x]) = strV D ++ [.string (tx x)] := by unfold strV; rw [List.map_append]; rfl
set_option maxHeartbeats 8000000 in
theorem l01Split_any (b : UInt8) (l : List UInt8) (hl : l.length ≤ 1048576) (w : World) :
    Calls Tryd.prog 9 #[.string (tx l), .int .u8 (b.toNat : Int)] w fun e w' => ∃ v, e = .returned v ∧ w'.ownsRow w.heap.size 9 1 v (sp b l).length (strV (sp b l)) ∧ Below w.heap.size w w' := by
  obtain ⟨i0, z0, hi0, hz0, hs0, hb0, hc0⟩ := str_info
  have HI := Lib.hid (And.intro hi0 (And.intro hz0 (And.intro hs0 (And.intro hb0 hc0))))
  clear hi0 hz0 hs0 hb0 hc0
  go_enter Tryd.func9, Tryd.ntmps9
  go_wp2
  go_loopw [7, 6, 5] (fun i bg v wr => ∃ (k a : Nat) (D : List (List UInt8)), k ≤ l.length ∧ a ≤ k ∧ D.length ≤ k ∧ i = .int .i64 k ∧ bg = .int .i64 a ∧ wr.ownsRow w.heap.size 9 1 v D.length (strV D) ∧ sp b l = D ++ glue (seg l a k) (sp b (l.drop k)) ∧ Below w.heap.size w wr) (fun i bg v wr => l.length + 1 - (intOf i).toNat)
  case atStart => exact ⟨0, 0, [], by omega, by omega, by simp, rfl, rfl, owns_empty1 _ _, by rw [seg_same, glue_nil (sp_ne _ _)]; rfl, by repeat' (first | with_reducible exact Below.refl _ _ | with_reducible assumption | with_reducible refine Below.drew ?_ | with_reducible refine Below.drewN ?_ _ | with_reducible refine Below.alloc ?_ ?_ _ | with_reducible refine Below.setCell ?_ ?_ _ | with_reducible refine Below.setRow ?_ ?_ _ | with_reducible refine below_step (by assumption) ?_ ?_ | (show (_ : Nat) ≤ _; first | omega | (simp <;> omega)))⟩
  case round =>
    obtain ⟨k, a, D, hk, ha, hD, rfl, rfl, hown, hsp, hb⟩ := hrel
    have hsz := hb.size
    have HO := Lib.hid hown
    have HS := Lib.hid hsp
    clear hown hsp
    by_cases hlt : k < l.length
    · obtain ⟨c, hx⟩ : ∃ c, l[k] = c := ⟨_, rfl⟩
      have hc : l[k]? = some c := by rw [List.getElem?_eq_getElem hlt, hx]
      have hkk : ¬ l.length < k := by omega
      have hak : ¬ k < a := by omega
      have hlt2 : (k : Int) < (l.length : Int) := by omega
      have hw1 : IntKind.i64.wrap ((k : Int) + 1) = ((k + 1 : Nat) : Int) := by rw [IntWalk.i64_in _ (by omega)]; rfl
      by_cases hcb : c = b
      · subst hcb
        have HN := Lib.hid (sp_hit hc (seg l a k))
        have HQ := Lib.hid (strV_snoc D (seg l a k))
        go_wp2_with (at_builtin; refine wpList_append_own _ rfl _ _ 41 rfl w.heap.size 9 i0 z0 1 16 Tryd.underlying41 HI.out.1 HI.out.2.1 HI.out.2.2.1 HI.out.2.2.2.1 HI.out.2.2.2.2 (by decide) _ _ _ rfl (HO.out.alloc _) ⟨wr.heap.size, 0, none⟩ 1 1 [.string (tx (seg l a k))] rfl rfl ?c1 ?c2 ?c3 ?c4 ?c5 ?_)
        case c1 =>
          intro j u hj
          match j, hj with
          | 0, hj => simp at hj; subst hj; simp [Addr.add]
        case c2 => intro u hu; simp at hu; subst hu; rfl
        case c3 => unfold maxLen; omega
        case c4 => omega
        case c5 => simp; omega
        intro v' w2 hown' hgrow _
        have hbg : Below w.heap.size w w2 := below_grown (Below.alloc (by repeat' (first | with_reducible exact Below.refl _ _ | with_reducible assumption | with_reducible refine Below.drew ?_ | with_reducible refine Below.drewN ?_ _ | with_reducible refine Below.alloc ?_ ?_ _ | with_reducible refine Below.setCell ?_ ?_ _ | with_reducible refine Below.setRow ?_ ?_ _ | with_reducible refine below_step (by assumption) ?_ ?_ | (show (_ : Nat) ≤ _; first | omega | (simp <;> omega)))) (by omega) _) hgrow (owns_base HO.out) (by simp; omega)
        have HB := Lib.hid hbg
        rw [← HQ.out] at hown'
        have HW := Lib.hid hown'
        clear hbg hown' hgrow
        go_wp2
        go_roundw
        case rel => first | exact ⟨k + 1, k + 1, D ++ [seg l a k], by omega, by omega, by simp; omega, by go_num, by go_num, by rw [List.length_append]; exact HW.out, by rw [HS.out, HN.out, seg_same, glue_nil (sp_ne _ _)]; simp, HB.out⟩ | ((repeat (with_reducible apply Exists.intro)); refine And.intro ?_ ?_; rotate_left; (focus ((repeat' (with_reducible apply And.intro)) <;> rfl)); exact ⟨k + 1, k + 1, D ++ [seg l a k], by omega, by omega, by simp; omega, by go_num, by go_num, by rw [List.length_append]; exact HW.out, by rw [HS.out, HN.out, seg_same, glue_nil (sp_ne _ _)]; simp, HB.out⟩)
        case measure => simp [intOf]; omega
      · have hcc : ((c.toNat : Int) == (b.toNat : Int)) = false := by
          rw [beq_eq_false_iff_ne]
          intro e
          exact hcb (UInt8.toNat_inj.1 (by omega))
        have hcd : decide ((c.toNat : Int) = (b.toNat : Int)) = false := by
          rw [decide_eq_false_iff_not]
          intro e
          exact hcb (UInt8.toNat_inj.1 (by omega))
        have hce : ¬ c.toNat = b.toNat := fun e => hcb (UInt8.toNat_inj.1 e)
        have HN := Lib.hid (sp_miss hc hcb (seg l a k))
        have HG := Lib.hid (seg_next hc ha)
        go_wp2
        go_roundw
        case rel => first | exact ⟨k + 1, a, D, by omega, by omega, by omega, by go_num, rfl, HO.out, by rw [HS.out, HN.out, HG.out], by repeat' (first | with_reducible exact Below.refl _ _ | with_reducible assumption | with_reducible refine Below.drew ?_ | with_reducible refine Below.drewN ?_ _ | with_reducible refine Below.alloc ?_ ?_ _ | with_reducible refine Below.setCell ?_ ?_ _ | with_reducible refine Below.setRow ?_ ?_ _ | with_reducible refine below_step (by assumption) ?_ ?_ | (show (_ : Nat) ≤ _; first | omega | (simp <;> omega)))⟩ | ((repeat (with_reducible apply Exists.intro)); refine And.intro ?_ ?_; rotate_left; (focus ((repeat' (with_reducible apply And.intro)) <;> rfl)); exact ⟨k + 1, a, D, by omega, by omega, by omega, by go_num, rfl, HO.out, by rw [HS.out, HN.out, HG.out], by repeat' (first | with_reducible exact Below.refl _ _ | with_reducible assumption | with_reducible refine Below.drew ?_ | with_reducible refine Below.drewN ?_ _ | with_reducible refine Below.alloc ?_ ?_ _ | with_reducible refine Below.setCell ?_ ?_ _ | with_reducible refine Below.setRow ?_ ?_ _ | with_reducible refine below_step (by assumption) ?_ ?_ | (show (_ : Nat) ≤ _; first | omega | (simp <;> omega)))⟩)
        case measure => simp [intOf]; omega
    · have hke : k = l.length := by omega
      have hal : ¬ l.length < a := by omega
      subst hke
      have hd : decide ((l.length : Int) < (l.length : Int)) = false := decide_eq_false (by omega)
      have HE := Lib.hid (sp_end b (Nat.le_refl l.length) (seg l a l.length))
      have HQ := Lib.hid (strV_snoc D (l.drop a))
      have HG := Lib.hid (seg_end l a)
      go_wp2_with (at_builtin; refine wpList_append_own _ rfl _ _ 41 rfl w.heap.size 9 i0 z0 1 16 Tryd.underlying41 HI.out.1 HI.out.2.1 HI.out.2.2.1 HI.out.2.2.2.1 HI.out.2.2.2.2 (by decide) _ _ _ rfl (HO.out.alloc _) ⟨wr.heap.size, 0, none⟩ 1 1 [.string (tx (l.drop a))] rfl rfl ?c1 ?c2 ?c3 ?c4 ?c5 ?_)
      case c1 =>
        intro j u hj
        match j, hj with
        | 0, hj => simp at hj; subst hj; simp [Addr.add]
      case c2 => intro u hu; simp at hu; subst hu; rfl
      case c3 => unfold maxLen; omega
      case c4 => omega
      case c5 => simp; omega
      intro v' w2 hown' hgrow _
      have hbg : Below w.heap.size w w2 := below_grown (Below.alloc (by repeat' (first | with_reducible exact Below.refl _ _ | with_reducible assumption | with_reducible refine Below.drew ?_ | with_reducible refine Below.drewN ?_ _ | with_reducible refine Below.alloc ?_ ?_ _ | with_reducible refine Below.setCell ?_ ?_ _ | with_reducible refine Below.setRow ?_ ?_ _ | with_reducible refine below_step (by assumption) ?_ ?_ | (show (_ : Nat) ≤ _; first | omega | (simp <;> omega)))) (by omega) _) hgrow (owns_base HO.out) (by simp; omega)
      rw [← HQ.out] at hown'
      have HB := Lib.hid hbg
      have HW := Lib.hid hown'
      clear hbg hown' hgrow
      go_wp2
      go_ret
      exact ⟨_, rfl, by rw [HS.out, HE.out, HG.out, List.length_append]; exact HW.out, HB.out⟩
theorem digs_at {l : List UInt8} {i n : Nat} {c : UInt8} (h : l[i]? = some c) : digs n (l.drop i) = if c.toNat < 48 ∨ 57 < c.toNat then none else digs (10 * n + (c.toNat - 48)) (l.drop (i + 1)) := by
  obtain ⟨hi, he⟩ := List.getElem?_eq_some_iff.1 h
  rw [List.drop_eq_getElem_cons hi, he, digs]
def numV (l : List UInt8) : Value := match numB l with | some n => .tuple #[.int .i64 (n : Int), .bool true] | none => .tuple #[.int .i64 0, .bool false]
theorem numV_none {l : List UInt8} (h : numB l = none) : numV l = .tuple #[.int .i64 0, .bool false] := by unfold numV; rw [h]
theorem numV_some {l : List UInt8} {n : Nat} (h : numB l = some n) : numV l = .tuple #[.int .i64 (n : Int), .bool true] := by unfold numV; rw [h]
set_option maxHeartbeats 8000000 in
theorem l01Number_any (l : List UInt8) (hl : l.length ≤ 1048576) (w : World) :
    Calls Tryd.prog 10 #[.string (tx l)] w fun e w' => e = .returned (numV l) ∧ Below w.heap.size w w' := by
  by_cases h0 : l = []
  · subst h0
    rw [numV_none rfl]
    go_enter Tryd.func10, Tryd.ntmps10
    go_wp2
    refine bodyPost_ret (v := (.tuple #[.int .i64 0, .bool false])) (res_tt rfl rfl rfl) rfl ⟨rfl, by repeat' (first | with_reducible exact Below.refl _ _ | with_reducible assumption | with_reducible refine Below.drew ?_ | with_reducible refine Below.drewN ?_ _ | with_reducible refine Below.alloc ?_ ?_ _ | with_reducible refine Below.setCell ?_ ?_ _ | with_reducible refine Below.setRow ?_ ?_ _ | with_reducible refine below_step (by assumption) ?_ ?_ | (show (_ : Nat) ≤ _; first | omega | (simp <;> omega)))⟩
  have hp : 0 < l.length := List.length_pos_iff.2 h0
  have he2 : (l == []) = false := by cases l <;> first | (exact absurd rfl h0) | rfl
  by_cases h9 : 9 < l.length
  · have hd : (9 : Int) < (l.length : Int) := by omega
    have hd3 : decide (9 < l.length) = true := decide_eq_true h9
    rw [numV_none (show numB l = none by unfold numB; rw [if_pos (.inr (.inl h9))])]
    go_enter Tryd.func10, Tryd.ntmps10
    go_wp2
    refine bodyPost_ret (v := (.tuple #[.int .i64 0, .bool false])) (res_tt rfl rfl rfl) rfl ⟨rfl, by repeat' (first | with_reducible exact Below.refl _ _ | with_reducible assumption | with_reducible refine Below.drew ?_ | with_reducible refine Below.drewN ?_ _ | with_reducible refine Below.alloc ?_ ?_ _ | with_reducible refine Below.setCell ?_ ?_ _ | with_reducible refine Below.setRow ?_ ?_ _ | with_reducible refine below_step (by assumption) ?_ ?_ | (show (_ : Nat) ≤ _; first | omega | (simp <;> omega)))⟩
  have hd9 : decide ((9 : Int) < (l.length : Int)) = false := decide_eq_false (by omega)
  have hd9' : ¬ (9 : Int) < (l.length : Int) := by omega
  obtain ⟨c, hx⟩ : ∃ c, l[0] = c := ⟨_, rfl⟩
  have hc : l[0]? = some c := by rw [List.getElem?_eq_getElem hp, hx]
  by_cases hz : c = 48 ∧ 1 < l.length
  · obtain ⟨rfl, h1⟩ := hz
    have hd1 : (1 : Int) < (l.length : Int) := by omega
    have hd3 : decide (1 < l.length) = true := decide_eq_true h1
    rw [numV_none (show numB l = none by unfold numB; rw [if_pos (.inr (.inr ⟨hc, h1⟩))])]
    go_enter Tryd.func10, Tryd.ntmps10
    go_wp2
    refine bodyPost_ret (v := (.tuple #[.int .i64 0, .bool false])) (res_tt rfl rfl rfl) rfl ⟨rfl, by repeat' (first | with_reducible exact Below.refl _ _ | with_reducible assumption | with_reducible refine Below.drew ?_ | with_reducible refine Below.drewN ?_ _ | with_reducible refine Below.alloc ?_ ?_ _ | with_reducible refine Below.setCell ?_ ?_ _ | with_reducible refine Below.setRow ?_ ?_ _ | with_reducible refine below_step (by assumption) ?_ ?_ | (show (_ : Nat) ≤ _; first | omega | (simp <;> omega)))⟩
  have HNB := Lib.hid (show numB l = digs 0 l by unfold numB; exact if_neg (fun h => h.elim h0 (fun h => h.elim h9 (fun h => hz ⟨by have := h.1; rw [hc] at this; exact Option.some.inj this, h.2⟩))))
  have HV := Lib.hid (fun n (h : digs 0 l = some n) => numV_some (HNB.out.trans h))
  have HU := Lib.hid (fun (h : digs 0 l = none) => numV_none (HNB.out.trans h))
  go_enter Tryd.func10, Tryd.ntmps10
  by_cases hc48 : c = 48
  · have h1 : ¬ 1 < l.length := fun h => hz ⟨hc48, h⟩
    subst hc48
    have h11 : l.length = 1 := by omega
    go_wp2
    go_loopw [5, 4] (fun i nv wr => ∃ (k n : Nat), k ≤ l.length ∧ i = .int .i64 k ∧ nv = .int .i64 n ∧ n < 10 ^ k ∧ digs 0 l = digs n (l.drop k) ∧ Below w.heap.size w wr) (fun i nv wr => l.length + 1 - (intOf i).toNat)
    case atStart => exact ⟨0, 0, by omega, rfl, rfl, by decide, rfl, by repeat' (first | with_reducible exact Below.refl _ _ | with_reducible assumption | with_reducible refine Below.drew ?_ | with_reducible refine Below.drewN ?_ _ | with_reducible refine Below.alloc ?_ ?_ _ | with_reducible refine Below.setCell ?_ ?_ _ | with_reducible refine Below.setRow ?_ ?_ _ | with_reducible refine below_step (by assumption) ?_ ?_ | (show (_ : Nat) ≤ _; first | omega | (simp <;> omega)))⟩
    case round =>
      obtain ⟨k, n, hk, rfl, rfl, hn, hdg, hb⟩ := hrel
      have HD := Lib.hid hdg
      clear hdg hx
      by_cases hlt : k < l.length
      · have hp8 : 10 ^ k ≤ 10 ^ 8 := Nat.pow_le_pow_right (by omega) (by omega)
        have hps : 10 ^ (k + 1) = 10 ^ k * 10 := Nat.pow_succ ..
        have hp8' : (10 : Nat) ^ 8 = 100000000 := rfl
        rw [hp8'] at hp8
        have hlt2 : (k : Int) < (l.length : Int) := by omega
        obtain ⟨e, hx⟩ : ∃ e, l[k] = e := ⟨_, rfl⟩
        have hq : l[k]? = some e := by rw [List.getElem?_eq_getElem hlt, hx]
        have hw1 : IntKind.i64.wrap ((k : Int) + 1) = ((k + 1 : Nat) : Int) := by rw [IntWalk.i64_in _ (by omega)]; rfl
        have HQ := Lib.hid (digs_at (n := n) hq)
        clear hc
        have he8 : e.toNat < 256 := e.toNat_lt
        generalize 10 ^ k = pk at *
        by_cases h1 : e.toNat < 48
        · have h1' : (e.toNat : Int) < 48 := by omega
          have HE := Lib.hid (HU.out (by rw [HD.out, HQ.out, if_pos (.inl h1)]))
          go_wp2
          refine bodyPost_ret (v := (.tuple #[.int .i64 0, .bool false])) (res_tt rfl rfl rfl) rfl ⟨by rw [HE.out], by repeat' (first | with_reducible exact Below.refl _ _ | with_reducible assumption | with_reducible refine Below.drew ?_ | with_reducible refine Below.drewN ?_ _ | with_reducible refine Below.alloc ?_ ?_ _ | with_reducible refine Below.setCell ?_ ?_ _ | with_reducible refine Below.setRow ?_ ?_ _ | with_reducible refine below_step (by assumption) ?_ ?_ | (show (_ : Nat) ≤ _; first | omega | (simp <;> omega)))⟩
        · have h1' : ¬ (e.toNat : Int) < 48 := by omega
          by_cases h2 : 57 < e.toNat
          · have h2' : (57 : Int) < (e.toNat : Int) := by omega
            have HE := Lib.hid (HU.out (by rw [HD.out, HQ.out, if_pos (.inr h2)]))
            go_wp2
            refine bodyPost_ret (v := (.tuple #[.int .i64 0, .bool false])) (res_tt rfl rfl rfl) rfl ⟨by rw [HE.out], by repeat' (first | with_reducible exact Below.refl _ _ | with_reducible assumption | with_reducible refine Below.drew ?_ | with_reducible refine Below.drewN ?_ _ | with_reducible refine Below.alloc ?_ ?_ _ | with_reducible refine Below.setCell ?_ ?_ _ | with_reducible refine Below.setRow ?_ ?_ _ | with_reducible refine below_step (by assumption) ?_ ?_ | (show (_ : Nat) ≤ _; first | omega | (simp <;> omega)))⟩
          · have h2' : ¬ (57 : Int) < (e.toNat : Int) := by omega
            have HN := Lib.hid (show digs n (l.drop k) = digs (10 * n + (e.toNat - 48)) (l.drop (k + 1)) by rw [HQ.out, if_neg (by omega)])
            have hw2 : IntKind.i64.wrap (10 * (n : Int)) = 10 * (n : Int) := IntWalk.i64_in _ (by omega)
            have hw3 : IntKind.u8.wrap ((e.toNat : Int) - 48) = (e.toNat : Int) - 48 := by simp only [IntKind.wrap, IntKind.bits, IntKind.signed]; simp; omega
            have hw4 : IntKind.i64.wrap ((e.toNat : Int) - 48) = (e.toNat : Int) - 48 := IntWalk.i64_in _ (by omega)
            have hw5 : IntKind.i64.wrap (10 * (n : Int) + ((e.toNat : Int) - 48)) = ((10 * n + (e.toNat - 48) : Nat) : Int) := by rw [IntWalk.i64_in _ (by omega)]; omega
            go_wp2
            go_roundw
            case rel => first | exact ⟨k + 1, 10 * n + (e.toNat - 48), by omega, by go_num, by go_num, by omega, by rw [HD.out, HN.out], by repeat' (first | with_reducible exact Below.refl _ _ | with_reducible assumption | with_reducible refine Below.drew ?_ | with_reducible refine Below.drewN ?_ _ | with_reducible refine Below.alloc ?_ ?_ _ | with_reducible refine Below.setCell ?_ ?_ _ | with_reducible refine Below.setRow ?_ ?_ _ | with_reducible refine below_step (by assumption) ?_ ?_ | (show (_ : Nat) ≤ _; first | omega | (simp <;> omega)))⟩ | ((repeat (with_reducible apply Exists.intro)); refine And.intro ?_ ?_; rotate_left; (focus ((repeat' (with_reducible apply And.intro)) <;> rfl)); exact ⟨k + 1, 10 * n + (e.toNat - 48), by omega, by go_num, by go_num, by omega, by rw [HD.out, HN.out], by repeat' (first | with_reducible exact Below.refl _ _ | with_reducible assumption | with_reducible refine Below.drew ?_ | with_reducible refine Below.drewN ?_ _ | with_reducible refine Below.alloc ?_ ?_ _ | with_reducible refine Below.setCell ?_ ?_ _ | with_reducible refine Below.setRow ?_ ?_ _ | with_reducible refine below_step (by assumption) ?_ ?_ | (show (_ : Nat) ≤ _; first | omega | (simp <;> omega)))⟩)
            case measure => simp [intOf]; omega
      · have hke : k = l.length := by omega
        subst hke
        have hd : decide ((l.length : Int) < (l.length : Int)) = false := decide_eq_false (by omega)
        have HE := Lib.hid (HV.out n (by rw [HD.out, List.drop_length]; rfl))
        go_wp2
        refine bodyPost_ret (v := (.tuple #[.int .i64 (n : Int), .bool true])) (res_tt rfl rfl rfl) rfl ⟨by rw [HE.out], by repeat' (first | with_reducible exact Below.refl _ _ | with_reducible assumption | with_reducible refine Below.drew ?_ | with_reducible refine Below.drewN ?_ _ | with_reducible refine Below.alloc ?_ ?_ _ | with_reducible refine Below.setCell ?_ ?_ _ | with_reducible refine Below.setRow ?_ ?_ _ | with_reducible refine below_step (by assumption) ?_ ?_ | (show (_ : Nat) ≤ _; first | omega | (simp <;> omega)))⟩
  · have hcn : ¬ c.toNat = 48 := fun h => hc48 (UInt8.toNat_inj.1 h)
    have hcz : ((c.toNat : Int) == 48) = false := by rw [beq_eq_false_iff_ne]; omega
    go_wp2
    go_loopw [5, 4] (fun i nv wr => ∃ (k n : Nat), k ≤ l.length ∧ i = .int .i64 k ∧ nv = .int .i64 n ∧ n < 10 ^ k ∧ digs 0 l = digs n (l.drop k) ∧ Below w.heap.size w wr) (fun i nv wr => l.length + 1 - (intOf i).toNat)
    case atStart => exact ⟨0, 0, by omega, rfl, rfl, by decide, rfl, by repeat' (first | with_reducible exact Below.refl _ _ | with_reducible assumption | with_reducible refine Below.drew ?_ | with_reducible refine Below.drewN ?_ _ | with_reducible refine Below.alloc ?_ ?_ _ | with_reducible refine Below.setCell ?_ ?_ _ | with_reducible refine Below.setRow ?_ ?_ _ | with_reducible refine below_step (by assumption) ?_ ?_ | (show (_ : Nat) ≤ _; first | omega | (simp <;> omega)))⟩
    case round =>
      obtain ⟨k, n, hk, rfl, rfl, hn, hdg, hb⟩ := hrel
      have HD := Lib.hid hdg
      clear hdg hx
      by_cases hlt : k < l.length
      · have hp8 : 10 ^ k ≤ 10 ^ 8 := Nat.pow_le_pow_right (by omega) (by omega)
        have hps : 10 ^ (k + 1) = 10 ^ k * 10 := Nat.pow_succ ..
        have hp8' : (10 : Nat) ^ 8 = 100000000 := rfl
        rw [hp8'] at hp8
        have hlt2 : (k : Int) < (l.length : Int) := by omega
        obtain ⟨e, hx⟩ : ∃ e, l[k] = e := ⟨_, rfl⟩
        have hq : l[k]? = some e := by rw [List.getElem?_eq_getElem hlt, hx]
        have hw1 : IntKind.i64.wrap ((k : Int) + 1) = ((k + 1 : Nat) : Int) := by rw [IntWalk.i64_in _ (by omega)]; rfl
        have HQ := Lib.hid (digs_at (n := n) hq)
        clear hc
        have he8 : e.toNat < 256 := e.toNat_lt
        generalize 10 ^ k = pk at *
        by_cases h1 : e.toNat < 48
        · have h1' : (e.toNat : Int) < 48 := by omega
          have HE := Lib.hid (HU.out (by rw [HD.out, HQ.out, if_pos (.inl h1)]))
          go_wp2
          refine bodyPost_ret (v := (.tuple #[.int .i64 0, .bool false])) (res_tt rfl rfl rfl) rfl ⟨by rw [HE.out], by repeat' (first | with_reducible exact Below.refl _ _ | with_reducible assumption | with_reducible refine Below.drew ?_ | with_reducible refine Below.drewN ?_ _ | with_reducible refine Below.alloc ?_ ?_ _ | with_reducible refine Below.setCell ?_ ?_ _ | with_reducible refine Below.setRow ?_ ?_ _ | with_reducible refine below_step (by assumption) ?_ ?_ | (show (_ : Nat) ≤ _; first | omega | (simp <;> omega)))⟩
        · have h1' : ¬ (e.toNat : Int) < 48 := by omega
          by_cases h2 : 57 < e.toNat
          · have h2' : (57 : Int) < (e.toNat : Int) := by omega
            have HE := Lib.hid (HU.out (by rw [HD.out, HQ.out, if_pos (.inr h2)]))
            go_wp2
            refine bodyPost_ret (v := (.tuple #[.int .i64 0, .bool false])) (res_tt rfl rfl rfl) rfl ⟨by rw [HE.out], by repeat' (first | with_reducible exact Below.refl _ _ | with_reducible assumption | with_reducible refine Below.drew ?_ | with_reducible refine Below.drewN ?_ _ | with_reducible refine Below.alloc ?_ ?_ _ | with_reducible refine Below.setCell ?_ ?_ _ | with_reducible refine Below.setRow ?_ ?_ _ | with_reducible refine below_step (by assumption) ?_ ?_ | (show (_ : Nat) ≤ _; first | omega | (simp <;> omega)))⟩
          · have h2' : ¬ (57 : Int) < (e.toNat : Int) := by omega
            have HN := Lib.hid (show digs n (l.drop k) = digs (10 * n + (e.toNat - 48)) (l.drop (k + 1)) by rw [HQ.out, if_neg (by omega)])
            have hw2 : IntKind.i64.wrap (10 * (n : Int)) = 10 * (n : Int) := IntWalk.i64_in _ (by omega)
            have hw3 : IntKind.u8.wrap ((e.toNat : Int) - 48) = (e.toNat : Int) - 48 := by simp only [IntKind.wrap, IntKind.bits, IntKind.signed]; simp; omega
            have hw4 : IntKind.i64.wrap ((e.toNat : Int) - 48) = (e.toNat : Int) - 48 := IntWalk.i64_in _ (by omega)
            have hw5 : IntKind.i64.wrap (10 * (n : Int) + ((e.toNat : Int) - 48)) = ((10 * n + (e.toNat - 48) : Nat) : Int) := by rw [IntWalk.i64_in _ (by omega)]; omega
            go_wp2
            go_roundw
            case rel => first | exact ⟨k + 1, 10 * n + (e.toNat - 48), by omega, by go_num, by go_num, by omega, by rw [HD.out, HN.out], by repeat' (first | with_reducible exact Below.refl _ _ | with_reducible assumption | with_reducible refine Below.drew ?_ | with_reducible refine Below.drewN ?_ _ | with_reducible refine Below.alloc ?_ ?_ _ | with_reducible refine Below.setCell ?_ ?_ _ | with_reducible refine Below.setRow ?_ ?_ _ | with_reducible refine below_step (by assumption) ?_ ?_ | (show (_ : Nat) ≤ _; first | omega | (simp <;> omega)))⟩ | ((repeat (with_reducible apply Exists.intro)); refine And.intro ?_ ?_; rotate_left; (focus ((repeat' (with_reducible apply And.intro)) <;> rfl)); exact ⟨k + 1, 10 * n + (e.toNat - 48), by omega, by go_num, by go_num, by omega, by rw [HD.out, HN.out], by repeat' (first | with_reducible exact Below.refl _ _ | with_reducible assumption | with_reducible refine Below.drew ?_ | with_reducible refine Below.drewN ?_ _ | with_reducible refine Below.alloc ?_ ?_ _ | with_reducible refine Below.setCell ?_ ?_ _ | with_reducible refine Below.setRow ?_ ?_ _ | with_reducible refine below_step (by assumption) ?_ ?_ | (show (_ : Nat) ≤ _; first | omega | (simp <;> omega)))⟩)
            case measure => simp [intOf]; omega
      · have hke : k = l.length := by omega
        subst hke
        have hd : decide ((l.length : Int) < (l.length : Int)) = false := decide_eq_false (by omega)
        have HE := Lib.hid (HV.out n (by rw [HD.out, List.drop_length]; rfl))
        go_wp2
        refine bodyPost_ret (v := (.tuple #[.int .i64 (n : Int), .bool true])) (res_tt rfl rfl rfl) rfl ⟨by rw [HE.out], by repeat' (first | with_reducible exact Below.refl _ _ | with_reducible assumption | with_reducible refine Below.drew ?_ | with_reducible refine Below.drewN ?_ _ | with_reducible refine Below.alloc ?_ ?_ _ | with_reducible refine Below.setCell ?_ ?_ _ | with_reducible refine Below.setRow ?_ ?_ _ | with_reducible refine below_step (by assumption) ?_ ?_ | (show (_ : Nat) ≤ _; first | omega | (simp <;> omega)))⟩
theorem strV_at {W : List (List UInt8)} {k : Nat} {x : List UInt8} (h : W[k]? = some x) : (strV W).toArray[k]? = some (.string (tx x)) := by
  unfold strV
  rw [List.getElem?_toArray, List.getElem?_map, h]; rfl
theorem own_strs {w : World} {base n : Nat} {e : TypeId} {v : Value} {W : List (List UInt8)} (h : w.ownsRow base e 1 v n (strV W)) (h0 : 0 < n) : ∃ g cap, v = .slice (some ⟨g, 0, none⟩) n cap ∧ base ≤ g ∧ g < w.heap.size ∧ ∀ j x, j < n → W[j]? = some x → (rowOf w g)[j]? = some (.string (tx x)) := by
  obtain ⟨hl, ⟨rfl, rfl⟩ | ⟨g, cap, cur, rfl, hb, hg, h1, h2, h3, ht⟩⟩ := h
  · omega
  · have hrow : rowOf w g = cur := by simp [rowOf, hg, objRow]
    refine ⟨g, cap, rfl, hb, (Array.getElem?_eq_some_iff.1 hg).1, fun j x hj hx => ?_⟩
    have e := strV_at hx
    rw [List.getElem?_toArray, ← ht, List.getElem?_take, if_pos (by omega)] at e
    rw [hrow, ← Array.getElem?_toList]; exact e
theorem numV_is (l : List UInt8) : ∃ (a : Int) (b : Bool), numV l = .tuple #[.int .i64 a, .bool b] ∧ (b = true → ∃ n : Nat, a = n ∧ numB l = some n) ∧ (b = false → numB l = none) := by
  cases h : numB l with
  | none => exact ⟨0, false, numV_none h, (fun e => by cases e), fun _ => rfl⟩
  | some n => exact ⟨n, true, numV_some h, fun _ => ⟨n, rfl, rfl⟩, (fun e => by cases e)⟩
end Go.Proofs.YtkdfkhjoijfcdaaDoor
/- What the program's readers lean on: Cut, Split, ParseInt in a world where the laid variables hold. -/
namespace Go.Proofs.YtkdfkhjoijfcdaaDoor
open Go.RowKit Go.Sort
set_option linter.unusedVariables false
set_option linter.unusedSimpArgs false
set_option maxRecDepth 100000
theorem var_below {P : Program} {n : String} {cs : Array Value} {w w' : World} (h : w.var? P n = some cs) (hb : Below w.heap.size w w') : w'.var? P n = some cs := by
  unfold World.var? at h ⊢
  cases hg : P.globalNamed n with
  | none => rw [hg] at h; cases h
  | some g =>
    rw [hg] at h
    simp only [Option.bind_some] at h ⊢
    have hlt : g < w.heap.size := by
      rcases Nat.lt_or_ge g w.heap.size with h' | h'
      · exact h'
      · rw [Array.getElem?_eq_none h'] at h; cases h
    rw [hb.block g hlt]
    exact h
/-- What a reader leans on. -/
structure RdW (w : World) : Prop where
  max : ∃ m, w.cell? ⟨2, 0, none⟩ = some (.int .i64 m)
  syn : ∃ tp p, w.var? Tryd.prog "strconv.ErrSyntax" = some #[.iface tp p]
  ran : ∃ tp p, w.var? Tryd.prog "strconv.ErrRange" = some #[.iface tp p]
theorem RdW.below {w w' : World} (h : RdW w) (hb : Below w.heap.size w w') : RdW w' := by
  obtain ⟨⟨m, hm⟩, ⟨t1, p1, h1⟩, ⟨t2, p2, h2⟩⟩ := h
  refine ⟨⟨m, ?_⟩, ⟨t1, p1, var_below h1 hb⟩, ⟨t2, p2, var_below h2 hb⟩⟩
  unfold World.cell? at hm ⊢
  have hlt : 2 < w.heap.size := by
    rcases Nat.lt_or_ge 2 w.heap.size with h' | h'
    · exact h'
    · simp [Array.getElem?_eq_none h'] at hm
  rw [hb.block _ hlt]
  exact hm
theorem row_err (u : TypeId) (h : Tryd.prog.typeName? 3 u = some "*errors.errorString") : u = 122 :=
  typeName_ptr_named (nm := "errors.errorString") (by rw [show "*" ++ "errors.errorString" = "*errors.errorString" by decide]; kernel_rfl) (by kernel_rfl) (by decide) u (by rw [show "*" ++ "errors.errorString" = "*errors.errorString" by decide]; exact h)
theorem RdW.of {W : World} (hSh : W.ShapedOpen Tryd.prog) {r1 r2 : List (String × DataW Unit)} {x1 x2 : List UInt8}
    (h1 : laidMet Tryd.prog (("strconv.ErrSyntax", .iface "*errors.errorString" (.ptr (.agg [.lit (.string x1)]))) :: r1) W) (h2 : laidMet Tryd.prog (("strconv.ErrRange", .iface "*errors.errorString" (.ptr (.agg [.lit (.string x2)]))) :: r2) W) : RdW W := by
  refine ⟨?_, ?_, ?_⟩
  · exact cell_of_shapedOpen_int (P := Tryd.prog) (g := 2) (t := 3) (zero := #[.int .i64 0]) hSh (of_decide_eq_true (by kernel_rfl)) (by kernel_rfl) rfl (by kernel_rfl) (by kernel_rfl) Tryd.underlying3
  · obtain ⟨a0, sa, hva, _, _, _⟩ := laid_sentinel h1 (g := 0) (by kernel_rfl) (by kernel_rfl) Tryd.underlying72 row_err Tryd.underlying122 Tryd.underlying124 rfl rfl Tryd.underlying9 (by kernel_rfl) (by kernel_rfl)
    exact ⟨_, _, hva⟩
  · obtain ⟨a0, sa, hva, _, _, _⟩ := laid_sentinel h2 (g := 1) (by kernel_rfl) (by kernel_rfl) Tryd.underlying72 row_err Tryd.underlying122 Tryd.underlying124 rfl rfl Tryd.underlying9 (by kernel_rfl) (by kernel_rfl)
    exact ⟨_, _, hva⟩
theorem below_drewN (w : World) (n : Nat) : Below w.heap.size w (w.drewN n) := by repeat' (first | with_reducible exact Below.refl _ _ | with_reducible assumption | with_reducible refine Below.drew ?_ | with_reducible refine Below.drewN ?_ _ | with_reducible refine Below.alloc ?_ ?_ _ | with_reducible refine Below.setCell ?_ ?_ _ | with_reducible refine Below.setRow ?_ ?_ _ | with_reducible refine below_step (by assumption) ?_ ?_ | (show (_ : Nat) ≤ _; first | omega | (simp <;> omega)))
theorem below_bytes (w : World) (e : TypeId) (s : ByteArray) : Below w.heap.size w (Lib.bytesWorld w e s) :=
  ⟨rfl, rfl, rfl, by rw [Lib.bytesWorld_size]; omega, fun b hb => Lib.bytesWorld_at_old w e s b hb⟩
theorem split_any (b : UInt8) (l : List UInt8) (hl : l.length ≤ 1048576) (w : World) (h : RdW w) :
    Calls Tryd.prog 33 #[.string (tx l), .string (tx [b])] w fun e w' => e = .returned (.slice (some ⟨w.heap.size, 0, none⟩) (sp b l).length (sp b l).length) ∧ w' = w.alloc (.cells (strV (sp b l)).toArray 9) := by
  obtain ⟨m, hm⟩ := h.max
  refine (Tryd.strings_Split (tx l) (tx [b]) m w (by rw [tx_size]; omega) hm (by rw [tx_size]; exact Nat.le_refl 1)).mono fun e w' hq => ?_
  obtain ⟨he, rfl⟩ := hq
  rw [count_is] at he
  refine ⟨he, ?_⟩
  rw [split_is, List.map_map]; rfl
end Go.Proofs.YtkdfkhjoijfcdaaDoor
