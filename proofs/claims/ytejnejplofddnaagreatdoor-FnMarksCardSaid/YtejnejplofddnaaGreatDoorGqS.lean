/- Several texts in one: Spl Endl. -/
import Derived.Test.YtejnejplofddnaaGreatDoorGqA
import Derived.Lib.Split
import Derived.Lib.ParseIntB
/- Words of a text, and numbers of a few digits: plain. -/
namespace Go.Proofs.YtejnejplofddnaaGreatDoor
set_option linter.unusedVariables false
set_option linter.unusedSimpArgs false
set_option maxRecDepth 100000
/-- A text split at a byte. -/
def glue (p : List UInt8) : List (List UInt8) → List (List UInt8)
  | [] => [p]
  | h :: t => (p ++ h) :: t
def sp (b : UInt8) : List UInt8 → List (List UInt8)
  | [] => [[]]
  | c :: l => if c = b then [] :: sp b l else glue [c] (sp b l)
theorem glue_glue (p q : List UInt8) (x : List (List UInt8)) : glue p (glue q x) = glue (p ++ q) x := by cases x <;> simp [glue]
theorem glue_nil {x : List (List UInt8)} (h : x ≠ []) : glue [] x = x := by cases x <;> simp [glue] at h ⊢
theorem glue_ne (p : List UInt8) (x : List (List UInt8)) : glue p x ≠ [] := by cases x <;> simp [glue]
theorem sp_ne (b : UInt8) (l : List UInt8) : sp b l ≠ [] := by
  cases l with
  | nil => simp [sp]
  | cons c l => unfold sp; split; · simp
                · exact glue_ne _ _
theorem sp_hit {b : UInt8} {l : List UInt8} {i : Nat} (h : l[i]? = some b) (p : List UInt8) : glue p (sp b (l.drop i)) = p :: sp b (l.drop (i + 1)) := by
  obtain ⟨hi, he⟩ := List.getElem?_eq_some_iff.1 h
  rw [List.drop_eq_getElem_cons hi, he, sp, if_pos rfl, glue, List.append_nil]
theorem sp_miss {b c : UInt8} {l : List UInt8} {i : Nat} (h : l[i]? = some c) (hc : c ≠ b) (p : List UInt8) : glue p (sp b (l.drop i)) = glue (p ++ [c]) (sp b (l.drop (i + 1))) := by
  obtain ⟨hi, he⟩ := List.getElem?_eq_some_iff.1 h
  rw [List.drop_eq_getElem_cons hi, he, sp, if_neg hc, glue_glue]
theorem sp_end (b : UInt8) {l : List UInt8} {i : Nat} (h : l.length ≤ i) (p : List UInt8) : glue p (sp b (l.drop i)) = [p] := by
  rw [List.drop_eq_nil_of_le h]; show [p ++ []] = _; rw [List.append_nil]
/-- The piece between two places. -/
def seg (l : List UInt8) (a i : Nat) : List UInt8 := (l.drop a).take (i - a)
theorem seg_same (l : List UInt8) (a : Nat) : seg l a a = [] := by unfold seg; rw [Nat.sub_self]; rfl
theorem seg_next {l : List UInt8} {a i : Nat} {c : UInt8} (h : l[i]? = some c) (ha : a ≤ i) : seg l a (i + 1) = seg l a i ++ [c] := by
  unfold seg
  rw [show i + 1 - a = (i - a) + 1 from by omega, List.take_add_one, List.getElem?_drop, show a + (i - a) = i from by omega, h]; rfl
theorem join_glue (b : UInt8) (p : List UInt8) {x : List (List UInt8)} (h : x ≠ []) : Lib.join (glue p x) [b] = p ++ Lib.join x [b] := by
  cases x with
  | nil => exact absurd rfl h
  | cons y r => rw [glue, Lib.join_cons, Lib.join_cons, List.append_assoc]
theorem join_nilc (b : UInt8) {x : List (List UInt8)} (h : x ≠ []) : Lib.join ([] :: x) [b] = b :: Lib.join x [b] := by
  cases x with
  | nil => exact absurd rfl h
  | cons y r => rw [Lib.join_cons, Lib.join_cons]; rfl
theorem join_sp (b : UInt8) : ∀ l, Lib.join (sp b l) [b] = l
  | [] => Lib.join_one _ _
  | c :: l => by
    unfold sp
    split
    · rename_i h; rw [join_nilc _ (sp_ne _ _), join_sp b l, h]
    · rw [join_glue _ _ (sp_ne _ _), join_sp b l]; rfl
theorem sp_one {b : UInt8} : ∀ {l : List UInt8}, b ∉ l → sp b l = [l]
  | [], _ => rfl
  | c :: l, h => by
    rw [sp, if_neg (fun e => h (by rw [e]; exact List.mem_cons_self)), sp_one (fun e => h (List.mem_cons_of_mem _ e))]; rfl
theorem sp_app {b : UInt8} : ∀ {l : List UInt8}, b ∉ l → ∀ r, sp b (l ++ b :: r) = l :: sp b r
  | [], _, r => by rw [List.nil_append, sp, if_pos rfl]
  | c :: l, h, r => by
    rw [List.cons_append, sp, if_neg (fun e => h (by rw [e]; exact List.mem_cons_self)), sp_app (fun e => h (List.mem_cons_of_mem _ e))]; rfl
theorem sp_join {b : UInt8} : ∀ {x : List UInt8} {r : List (List UInt8)}, (∀ y ∈ x :: r, b ∉ y) → sp b (Lib.join (x :: r) [b]) = x :: r
  | x, [], h => by rw [Lib.join_one, sp_one (h x (by simp))]
  | x, y :: r, h => by
    rw [Lib.join_cons, show Lib.joinTail [b] (y :: r) = b :: (y ++ Lib.joinTail [b] r) by simp [Lib.joinTail], ← Lib.join_cons, sp_app (h x (by simp)), sp_join (fun z hz => h z (List.mem_cons_of_mem _ hz))]
theorem sp_free {b : UInt8} : ∀ {l : List UInt8} {x : List UInt8}, x ∈ sp b l → b ∉ x
  | [], x, h => by simp [sp] at h; subst h; simp
  | c :: l, x, h => by
    unfold sp at h
    split at h
    · rcases List.mem_cons.1 h with rfl | h
      · simp
      · exact sp_free h
    · rename_i hc
      cases hs : sp b l with
      | nil => exact absurd hs (sp_ne _ _)
      | cons y r =>
        rw [hs] at h
        rcases List.mem_cons.1 h with rfl | h
        · intro hb
          rcases List.mem_cons.1 hb with e | hb
          · exact hc e.symm
          · exact sp_free (l := l) (by rw [hs]; exact List.mem_cons_self) hb
        · exact sp_free (l := l) (by rw [hs]; exact List.mem_cons_of_mem _ h)
theorem glue_len (p : List UInt8) {x : List (List UInt8)} (h : x ≠ []) : (glue p x).length = x.length := by
  cases x with
  | nil => exact absurd rfl h
  | cons y r => rfl
theorem sp_len (b : UInt8) : ∀ l, (sp b l).length ≤ l.length + 1
  | [] => Nat.le_refl _
  | c :: l => by
    have := sp_len b l
    unfold sp
    split
    · simp; omega
    · rw [glue_len _ (sp_ne _ _)]; simp; omega
/-- The library's words are the same. -/
theorem index_cons (b c : UInt8) (l : List UInt8) : Lib.index (c :: l) [b] = if c = b then 0 else if Lib.index l [b] == -1 then -1 else Lib.index l [b] + 1 := by
  rw [Lib.index]
  by_cases h : c = b
  · subst h; simp
  · have h2 : ([b].isPrefixOf (c :: l)) = false := by
      show (b == c && true) = false
      rw [Bool.and_true]
      exact beq_false_of_ne (fun e => h e.symm)
    rw [h2, if_neg h]; simp
theorem index_miss {b : UInt8} {l : List UInt8} (h : b ∉ l) : Lib.index l [b] = -1 := by
  induction l with
  | nil => rfl
  | cons c l ih =>
    rw [index_cons, if_neg (fun e => h (by rw [e]; exact List.mem_cons_self)), ih (fun e => h (List.mem_cons_of_mem _ e))]; rfl
theorem index_app {b : UInt8} {l : List UInt8} (h : b ∉ l) (r : List UInt8) : Lib.index (l ++ b :: r) [b] = l.length := by
  induction l with
  | nil => rw [List.nil_append, index_cons, if_pos rfl]; rfl
  | cons c l ih =>
    rw [List.cons_append, index_cons, if_neg (fun e => h (by rw [e]; exact List.mem_cons_self)), ih (fun e => h (List.mem_cons_of_mem _ e))]
    rw [if_neg (by simp)]; simp
theorem split_parts (b : UInt8) (l : List UInt8) : (b ∉ l) ∨ ∃ x r, l = x ++ b :: r ∧ b ∉ x := by
  induction l with
  | nil => exact .inl (by simp)
  | cons c l ih =>
    by_cases h : c = b
    · subst h; exact .inr ⟨[], l, rfl, by simp⟩
    · rcases ih with h2 | ⟨x, r, rfl, hx⟩
      · exact .inl (fun e => by rcases List.mem_cons.1 e with e | e; · exact h e.symm
                                · exact h2 e)
      · exact .inr ⟨c :: x, r, rfl, fun e => by rcases List.mem_cons.1 e with e | e; · exact h e.symm
                                                · exact hx e⟩
theorem splitK_sp (b : UInt8) : ∀ (n : Nat) (l : List UInt8), l.length ≤ n → Lib.splitK [b] 0 (Lib.count l [b]) l = sp b l ∧ Lib.count l [b] + 1 = (sp b l).length := by
  intro n
  induction n with
  | zero =>
    intro l hl
    obtain rfl : l = [] := List.length_eq_zero_iff.1 (by omega)
    exact ⟨rfl, rfl⟩
  | succ n ih =>
    intro l hl
    rcases split_parts b l with h | ⟨x, r, rfl, hx⟩
    · rw [Lib.count_miss (index_miss h), sp_one h]; exact ⟨rfl, rfl⟩
    · have hi := index_app hx r
      have hd : (x ++ b :: r).drop (x.length + 1) = r := by rw [show x ++ b :: r = (x ++ [b]) ++ r by simp, List.drop_left' (by simp)]
      have hc : Lib.count (x ++ b :: r) [b] = 1 + Lib.count r [b] := by
        rw [Lib.count_hit (by simp) hi]; show 1 + Lib.count ((x ++ b :: r).drop (x.length + 1)) [b] = _; rw [hd]
      obtain ⟨h1, h2⟩ := ih r (by simp at hl; omega)
      rw [hc, sp_app hx]
      refine ⟨?_, by simp; omega⟩
      rw [Nat.add_comm 1, Lib.splitK, hi, if_neg (by simp)]
      show ((x ++ b :: r).take x.length) :: Lib.splitK [b] 0 _ ((x ++ b :: r).drop (x.length + 1)) = _
      rw [hd, h1, List.take_left' rfl]
theorem split_is (b : UInt8) (l : List UInt8) : Lib.splitB (tx [b]) 0 (Lib.countB (tx l) (tx [b])) (tx l) = (sp b l).map tx := by
  have h := Lib.splitB_data (tx [b]) 0 (Lib.countB (tx l) (tx [b])) (tx l)
  have h2 : Lib.countB (tx l) (tx [b]) = Lib.count l [b] := rfl
  rw [h2] at h ⊢
  have h3 : Lib.splitK (tx [b]).data.toList 0 (Lib.count l [b]) (tx l).data.toList = sp b l := (splitK_sp b l.length l (Nat.le_refl _)).1
  rw [h3] at h
  rw [← h, List.map_map]
  conv => lhs; rw [← List.map_id (Lib.splitB (tx [b]) 0 (Lib.count l [b]) (tx l))]
  exact List.map_congr_left fun x _ => rfl
theorem count_is (b : UInt8) (l : List UInt8) : Lib.countB (tx l) (tx [b]) + 1 = (sp b l).length := (splitK_sp b l.length l (Nat.le_refl _)).2
/-- Cut at a byte. -/
def cut1 (b : UInt8) (l : List UInt8) : List UInt8 := (Lib.cut l [b]).1
def cut2 (b : UInt8) (l : List UInt8) : List UInt8 := (Lib.cut l [b]).2.1
theorem cut_app {b : UInt8} {l : List UInt8} (h : b ∉ l) (r : List UInt8) : cut1 b (l ++ b :: r) = l ∧ cut2 b (l ++ b :: r) = r := by
  have hd : (l ++ b :: r).drop (l.length + 1) = r := by rw [show l ++ b :: r = (l ++ [b]) ++ r by simp, List.drop_left' (by simp)]
  unfold cut1 cut2 Lib.cut
  rw [index_app h, if_pos (by omega)]
  refine ⟨?_, ?_⟩
  · show (l ++ b :: r).take l.length = l; exact List.take_left' rfl
  · show (l ++ b :: r).drop (l.length + 1) = r; exact hd
theorem cut_miss {b : UInt8} {l : List UInt8} (h : b ∉ l) : cut1 b l = l ∧ cut2 b l = [] := by
  unfold cut1 cut2 Lib.cut
  rw [index_miss h, if_neg (by omega)]; exact ⟨rfl, rfl⟩
theorem cut1_len (b : UInt8) (l : List UInt8) : (cut1 b l).length ≤ l.length := by
  rcases split_parts b l with h | ⟨x, r, rfl, hx⟩
  · rw [(cut_miss h).1]; exact Nat.le_refl _
  · rw [(cut_app hx r).1]; simp
theorem cut2_len (b : UInt8) (l : List UInt8) : (cut2 b l).length ≤ l.length := by
  rcases split_parts b l with h | ⟨x, r, rfl, hx⟩
  · rw [(cut_miss h).2]; simp
  · rw [(cut_app hx r).2]; simp; omega
theorem sp_two {b : UInt8} {l x y : List UInt8} (h : sp b l = [x, y]) : l = x ++ b :: y ∧ b ∉ x ∧ b ∉ y := by
  have h1 := join_sp b l
  rw [h, Lib.join_cons] at h1
  refine ⟨by rw [← h1]; simp [Lib.joinTail], sp_free (l := l) (by rw [h]; simp), sp_free (l := l) (by rw [h]; simp)⟩
/-- The reference's numbers. -/
def digs (acc : Nat) : List UInt8 → Option Nat
  | [] => some acc
  | c :: r => if c.toNat < 48 ∨ 57 < c.toNat then none else digs (10 * acc + (c.toNat - 48)) r
def numB (l : List UInt8) : Option Nat := if l = [] ∨ 9 < l.length ∨ (l[0]? = some 48 ∧ 1 < l.length) then none else digs 0 l
theorem digs_ge : ∀ (l : List UInt8) (acc n : Nat), digs acc l = some n → acc ≤ n
  | [], acc, n, h => by simp [digs] at h; omega
  | c :: r, acc, n, h => by
    unfold digs at h
    split at h
    · cases h
    · have := digs_ge r _ n h; omega
/-- A number below ten is one digit. -/
theorem numB_small {l : List UInt8} {n : Nat} (h : numB l = some n) (hn : n < 10) : l = [by8 (48 + (n : Int))] := by
  unfold numB at h
  split at h
  · cases h
  · rename_i hc
    match l, h, hc with
    | [], _, hc => exact absurd (.inl rfl) hc
    | [c], h, _ =>
      simp only [digs] at h
      split at h
      · cases h
      · rename_i hd
        simp only [Option.some.injEq] at h
        unfold by8
        congr 1
        apply UInt8.toNat_inj.1
        rw [UInt8.toNat_ofNat']
        omega
    | c :: d :: r, h, hc =>
      rw [digs] at h
      split at h
      · cases h
      · rename_i h1
        rw [digs] at h
        split at h
        · cases h
        · rename_i h2
          have := digs_ge r _ n h
          exfalso
          apply hc
          refine .inr (.inr ⟨?_, by simp⟩)
          have hc0 : c.toNat = 48 := by omega
          show some c = some 48
          congr 1
          apply UInt8.toNat_inj.1
          rw [hc0]; rfl
theorem numB_dig {i : Nat} (hi : i < 10) : numB [by8 (48 + (i : Int))] = some i := by
  rcases (by omega : i = 0 ∨ i = 1 ∨ i = 2 ∨ i = 3 ∨ i = 4 ∨ i = 5 ∨ i = 6 ∨ i = 7 ∨ i = 8 ∨ i = 9) with rfl | rfl | rfl | rfl | rfl | rfl | rfl | rfl | rfl | rfl <;> rfl
/-- What the program's parser makes of a text, at eight bits: the number alone. -/
def pi8 (l : List UInt8) : Int := match Lib.parseIntB 8 l with | .ok v => v | .syntax => 0 | .range => Lib.intSat 8 l
theorem pi8_dig {i : Nat} (hi : i < 10) : pi8 [by8 (48 + (i : Int))] = i := by
  rcases (by omega : i = 0 ∨ i = 1 ∨ i = 2 ∨ i = 3 ∨ i = 4 ∨ i = 5 ∨ i = 6 ∨ i = 7 ∨ i = 8 ∨ i = 9) with rfl | rfl | rfl | rfl | rfl | rfl | rfl | rfl | rfl | rfl <;> rfl
theorem seg_le {b : UInt8} {l x : List UInt8} (h : x ∈ sp b l) : x.length ≤ l.length := by
  have hj := join_sp b l
  have key : ∀ (r : List (List UInt8)), x ∈ r → x.length ≤ (Lib.joinTail [b] r).length := by
    intro r
    induction r with
    | nil => intro h; cases h
    | cons y r ih =>
      intro h
      have e : Lib.joinTail [b] (y :: r) = ([b] ++ y) ++ Lib.joinTail [b] r := by simp [Lib.joinTail]
      rw [e, List.length_append, List.length_append]
      rcases List.mem_cons.1 h with rfl | h
      · omega
      · have := ih h; omega
  cases hs : sp b l with
  | nil => rw [hs] at h; cases h
  | cons y r =>
    rw [hs] at h
    rw [hs, Lib.join_cons] at hj
    rw [← hj, List.length_append]
    rcases List.mem_cons.1 h with rfl | h
    · omega
    · have := key r h; omega
end Go.Proofs.YtejnejplofddnaaGreatDoor
/- Lines ended by a byte, and the last end taken off. No program. -/
namespace Go.Proofs.YtejnejplofddnaaGreatDoor
open Go.RowKit
set_option linter.unusedVariables false
set_option linter.unusedSimpArgs false
set_option maxRecDepth 100000
/-- Lines ended by a byte. -/
def endl (L : List (List UInt8)) : List UInt8 := (L.map (· ++ [10])).flatten
theorem joinTail_endl : ∀ (L : List (List UInt8)), Lib.joinTail [10] (L ++ [[]]) = 10 :: endl L
  | [] => by simp [Lib.joinTail, endl]
  | x :: r => by
    have h := joinTail_endl r
    have e : Lib.joinTail [10] (x :: r ++ [[]]) = ([10] ++ x) ++ Lib.joinTail [10] (r ++ [[]]) := by simp [Lib.joinTail]
    rw [e, h]
    simp [endl]
theorem join_endl : ∀ (L : List (List UInt8)), Lib.join (L ++ [[]]) [10] = endl L
  | [] => by show Lib.join [[]] [10] = _; rw [Lib.join_one]; rfl
  | x :: r => by
    rw [List.cons_append, Lib.join_cons, joinTail_endl]
    simp [endl]
theorem endl_next {L : List (List UInt8)} {k : Nat} {x : List UInt8} (h : L[k]? = some x) : endl (L.take (k + 1)) = endl (L.take k) ++ (x ++ [10]) := by
  unfold endl
  rw [List.take_add_one, h, List.map_append, List.flatten_append]; simp
def trim (t : List UInt8) : List UInt8 := if t.getLast? = some 10 then t.dropLast else t
theorem endl_last : ∀ {L : List (List UInt8)}, L ≠ [] → (endl L).getLast? = some 10 ∧ (endl L).dropLast = Lib.join L [10] := by
  intro L hL
  have h : endl L = Lib.join L [10] ++ [10] := by
    cases L with
    | nil => exact absurd rfl hL
    | cons x r =>
      rw [← join_endl, List.cons_append, Lib.join_cons, Lib.join_cons, joinTail_snoc]
      simp
  rw [h]
  simp
theorem trim_is (t : List UInt8) : (⟨(Lib.trimSuffix (tx t).data.toList (tx [10]).data.toList).toArray⟩ : ByteArray) = tx (trim t) := by
  show (⟨(Lib.trimSuffix t [10]).toArray⟩ : ByteArray) = ⟨(trim t).toArray⟩
  congr 2
  unfold Lib.trimSuffix Lib.hasSuffix trim
  rcases List.eq_nil_or_concat t with rfl | ⟨r, c, rfl⟩
  · rfl
  · rw [List.concat_eq_append]
    by_cases hc : c = 10
    · subst hc
      simp
    · have h1 : ([10] : List UInt8).isSuffixOf (r ++ [c]) = false := by
        rw [Bool.eq_false_iff]
        intro h
        rw [List.isSuffixOf_iff_suffix] at h
        obtain ⟨q, hq⟩ := h
        have := congrArg List.getLast? hq
        simp at this
        exact hc this.symm
      rw [h1]
      simp [hc]
theorem trim_len (t : List UInt8) : (trim t).length ≤ t.length := by
  unfold trim
  split
  · rw [List.length_dropLast]; omega
  · exact Nat.le_refl _
theorem sp_trim {L : List (List UInt8)} (hL : L ≠ []) (hno : ∀ x ∈ L, (10 : UInt8) ∉ x) : sp 10 (trim (endl L)) = L := by
  obtain ⟨h1, h2⟩ := endl_last hL
  unfold trim
  rw [if_pos h1, h2]
  match L, hL with
  | x :: r, _ => exact sp_join hno
/-- A picture's rows, a byte a cell. -/
def rowB (ch : Nat → Nat → UInt8) (y : Nat) : Nat → List UInt8
  | 0 => []
  | x + 1 => rowB ch y x ++ [ch x y]
def linB (ch : Nat → Nat → UInt8) (W : Nat) : Nat → List (List UInt8)
  | 0 => []
  | y + 1 => linB ch W y ++ [rowB ch y W]
theorem rowB_len (ch : Nat → Nat → UInt8) (y : Nat) : ∀ x, (rowB ch y x).length = x
  | 0 => rfl
  | x + 1 => by show (rowB ch y x ++ [ch x y]).length = x + 1; rw [List.length_append, rowB_len ch y x]; rfl
theorem linB_len (ch : Nat → Nat → UInt8) (W : Nat) : ∀ y, (linB ch W y).length = y
  | 0 => rfl
  | y + 1 => by show (linB ch W y ++ [rowB ch y W]).length = y + 1; rw [List.length_append, linB_len ch W y]; rfl
theorem rowB_mem {ch : Nat → Nat → UInt8} {b : UInt8} (h : ∀ x y, ch x y ≠ b) (y : Nat) : ∀ x, b ∉ rowB ch y x
  | 0 => by intro g; cases g
  | x + 1 => by
    show b ∉ rowB ch y x ++ [ch x y]
    intro g
    rcases List.mem_append.1 g with g | g
    · exact rowB_mem h y x g
    · exact h x y (List.mem_singleton.1 g).symm
theorem linB_mem {ch : Nat → Nat → UInt8} {b : UInt8} (h : ∀ x y, ch x y ≠ b) (W : Nat) : ∀ y, ∀ l ∈ linB ch W y, b ∉ l
  | 0 => by intro l g; cases g
  | y + 1 => by
    intro l g
    rcases List.mem_append.1 g with g | g
    · exact linB_mem h W y l g
    · rw [List.mem_singleton.1 g]; exact rowB_mem h y W
theorem linB_endl (ch : Nat → Nat → UInt8) (W y : Nat) : endl (linB ch W (y + 1)) = endl (linB ch W y) ++ (rowB ch y W ++ [10]) := by
  unfold endl
  show ((linB ch W y ++ [rowB ch y W]).map _).flatten = _
  rw [List.map_append, List.flatten_append]; simp
theorem lin_split {ch : Nat → Nat → UInt8} (h : ∀ x y, ch x y ≠ 10) {W H : Nat} (hH : 0 < H) : sp 10 (trim (endl (linB ch W H))) = linB ch W H :=
  sp_trim (fun e => by have := linB_len ch W H; rw [e] at this; simp at this; omega) (linB_mem h W H)
end Go.Proofs.YtejnejplofddnaaGreatDoor
