/- Several texts in one: NumW RRead RGrid. -/
import Derived.Test.YtkdfkhjoijfcdaaDoorRd
import Derived.Test.YtkdfkhjoijfcdaaDoorRg
/- Numbers of several digits, read: plain. -/
namespace Go.Proofs.YtkdfkhjoijfcdaaDoor
set_option linter.unusedVariables false
set_option linter.unusedSimpArgs false
set_option maxRecDepth 100000
theorem dec_by8 {n : Nat} : ∃ c : UInt8, by8 (48 + (n : Int) % 10) = c ∧ c.toNat = 48 + n % 10 := ⟨_, rfl, by
  unfold by8
  rw [UInt8.toNat_ofNat']; omega⟩
/-- What is read behind a number: its digits stand behind the number's. -/
theorem digs_dec : ∀ (l : List UInt8) (acc n : Nat), 1 ≤ acc → digs acc l = some n → Lib.decDigits n = Lib.decDigits acc ++ l
  | [], acc, n, _, h => by
    simp only [digs, Option.some.injEq] at h
    rw [h, List.append_nil]
  | c :: r, acc, n, ha, h => by
    rw [digs] at h
    split at h
    · cases h
    · rename_i hc
      have h2 := digs_dec r (10 * acc + (c.toNat - 48)) n (by omega) h
      have h3 := dec_more (n := 10 * acc + (c.toNat - 48)) (by omega)
      rw [show (10 * acc + (c.toNat - 48)) / 10 = acc from by omega] at h3
      have h4 : by8 (48 + (((10 * acc + (c.toNat - 48) : Nat) : Int)) % 10) = c := by
        obtain ⟨x, hx, hx2⟩ := dec_by8 (n := 10 * acc + (c.toNat - 48))
        rw [hx]
        apply UInt8.toNat_inj.1
        omega
      rw [h4] at h3
      rw [h2, h3, List.append_assoc]; rfl
theorem dec_zero : Lib.decDigits 0 = [48] := by rw [dec_one (by omega)]; rfl
theorem numB_dec {l : List UInt8} {n : Nat} (h : numB l = some n) : l = Lib.decDigits n := by
  unfold numB at h
  split at h
  · cases h
  · rename_i hc
    match l, h, hc with
    | [], _, hc => exact absurd (.inl rfl) hc
    | c :: r, h, hc =>
      rw [digs] at h
      split at h
      · cases h
      · rename_i hd
        by_cases h48 : c.toNat = 48
        · have hr : r = [] := by
            by_cases hr : r = []
            · exact hr
            · exfalso
              apply hc
              have := List.length_pos_iff.2 hr
              refine .inr (.inr ⟨?_, by simp; omega⟩)
              show some c = some 48
              congr 1
              apply UInt8.toNat_inj.1
              rw [h48]; rfl
          subst hr
          simp only [digs, Option.some.injEq] at h
          have h0 : n = 0 := by omega
          rw [h0, dec_zero]
          congr 1
          apply UInt8.toNat_inj.1
          rw [h48]; rfl
        · have h2 := digs_dec r _ n (by omega) h
          rw [h2, dec_one (by omega)]
          have : by8 (48 + (((10 * 0 + (c.toNat - 48) : Nat)) : Int)) = c := by
            apply UInt8.toNat_inj.1
            unfold by8
            rw [UInt8.toNat_ofNat']
            have := c.toNat_lt
            omega
          rw [this]; rfl
theorem digs_snoc : ∀ (l : List UInt8) (a m : Nat) (c : UInt8), digs a l = some m → 48 ≤ c.toNat → c.toNat ≤ 57 → digs a (l ++ [c]) = some (10 * m + (c.toNat - 48))
  | [], a, m, c, h, h1, h2 => by
    simp only [digs, Option.some.injEq] at h
    subst h
    show digs a [c] = _
    rw [digs, if_neg (by omega)]; rfl
  | x :: r, a, m, c, h, h1, h2 => by
    rw [digs] at h
    rw [List.cons_append, digs]
    split at h
    · cases h
    · rename_i hx
      rw [if_neg hx]
      exact digs_snoc r _ m c h h1 h2
theorem digs_of_dec (n : Nat) : digs 0 (Lib.decDigits n) = some n := by
  induction n using Nat.strongRecOn with
  | _ n ih =>
    rcases Nat.lt_or_ge n 10 with h | h
    · rw [dec_one h]
      have e : (by8 (48 + (n : Int))).toNat = 48 + n := by unfold by8; rw [UInt8.toNat_ofNat']; omega
      rw [digs, if_neg (by omega), digs]
      congr 1
      omega
    · rw [dec_more h]
      obtain ⟨c, hc, hc2⟩ := dec_by8 (n := n)
      rw [hc, digs_snoc _ _ _ c (ih (n / 10) (by omega)) (by omega) (by omega)]
      congr 1
      omega
theorem dec_len3 {n : Nat} (h : n < 1000) : 1 ≤ (Lib.decDigits n).length ∧ (Lib.decDigits n).length ≤ 3 := by
  rcases Nat.lt_or_ge n 10 with h1 | h1
  · rw [dec_one h1]; simp
  · rw [dec_more h1, List.length_append]
    rcases Nat.lt_or_ge (n / 10) 10 with h2 | h2
    · rw [dec_one h2]; simp
    · rw [dec_more h2, List.length_append, dec_one (by omega)]; simp
theorem dec_head (n : Nat) : 1 ≤ n → (Lib.decDigits n)[0]? ≠ some 48 := by
  induction n using Nat.strongRecOn with
  | _ n ih =>
    intro hn
    rcases Nat.lt_or_ge n 10 with h | h
    · rw [dec_one h]
      intro e
      have e2 := congrArg UInt8.toNat (Option.some.inj e)
      unfold by8 at e2
      rw [UInt8.toNat_ofNat'] at e2
      have : (48 : UInt8).toNat = 48 := rfl
      omega
    · have h2 := ih (n / 10) (by omega) (by omega)
      have hl : 0 < (Lib.decDigits (n / 10)).length := by
        rcases Nat.eq_zero_or_pos (Lib.decDigits (n / 10)).length with h0 | h0
        · have hn0 := List.length_eq_zero_iff.1 h0
          have hd := digs_of_dec (n / 10)
          rw [hn0] at hd
          simp only [digs, Option.some.injEq] at hd
          omega
        · exact h0
      rw [dec_more h, List.getElem?_append_left hl]
      exact h2
theorem numB_of_dec {n : Nat} (h : n < 1000) : numB (Lib.decDigits n) = some n := by
  have hl := dec_len3 h
  unfold numB
  rw [if_neg, digs_of_dec]
  rintro (h0 | h0 | ⟨h0, h1⟩)
  · rw [h0] at hl; simp at hl
  · omega
  · rcases Nat.eq_zero_or_pos n with hz | hz
    · rw [hz, dec_zero] at h1; simp at h1
    · exact dec_head n hz h0
/-- The program's parser, at sixteen bits. -/
def pi16 (l : List UInt8) : Int := match Lib.parseIntB 16 l with | .ok v => v | .syntax => 0 | .range => Lib.intSat 16 l
theorem parse_digs : ∀ (l : List UInt8) (M acc n : Nat), M ≤ 65535 → digs acc l = some n → n ≤ M → Lib.parseUintM M acc l = .ok n
  | [], M, acc, n, _, h, _ => by
    simp only [digs, Option.some.injEq] at h
    rw [h]; rfl
  | c :: r, M, acc, n, hM, h, hn => by
    rw [digs] at h
    split at h
    · cases h
    · rename_i hc
      have hge := digs_ge r _ n h
      rw [Lib.parseUintM, if_pos (by omega), if_neg (by omega), if_neg (by omega), show acc * 10 + (c.toNat - 48) = 10 * acc + (c.toNat - 48) from by omega]
      exact parse_digs r M _ n hM h hn
theorem pi16_dec {n : Nat} (h : n < 1000) : pi16 (Lib.decDigits n) = n := by
  have hl := dec_len3 h
  have hd := digs_of_dec n
  cases hl2 : Lib.decDigits n with
  | nil => rw [hl2] at hl; simp at hl
  | cons c r =>
    rw [hl2] at hd
    have hcd : 48 ≤ c.toNat ∧ c.toNat ≤ 57 := by
      rw [digs] at hd
      split at hd
      · cases hd
      · omega
    have hu : Lib.parseUintB 16 (c :: r) = .ok n := by
      unfold Lib.parseUintB
      rw [if_neg (by simp)]
      exact parse_digs _ _ _ _ (by decide) hd (by omega)
    unfold pi16 Lib.parseIntB
    simp only
    rw [if_neg (by omega), hu]
    simp only
    rw [if_neg (by omega), if_neg (by omega), if_neg (by omega)]
end Go.Proofs.YtkdfkhjoijfcdaaDoor
/- Rings read from a text: plain. -/
namespace Go.Proofs.YtkdfkhjoijfcdaaDoor
set_option linter.unusedVariables false
set_option linter.unusedSimpArgs false
set_option maxRecDepth 100000
theorem dec_digit (n : Nat) : ∀ c ∈ Lib.decDigits n, 48 ≤ c.toNat ∧ c.toNat ≤ 57 := by
  induction n using Nat.strongRecOn with
  | _ n ih =>
    intro c hc
    rcases Nat.lt_or_ge n 10 with h | h
    · rw [dec_one h] at hc
      obtain rfl := List.mem_singleton.1 hc
      have e : (by8 (48 + (n : Int))).toNat = 48 + n := by unfold by8; rw [UInt8.toNat_ofNat']; omega
      omega
    · rw [dec_more h] at hc
      rcases List.mem_append.1 hc with hc | hc
      · exact ih (n / 10) (by omega) c hc
      · obtain ⟨x, hx, hx2⟩ := dec_by8 (n := n)
        rw [hx] at hc
        obtain rfl := List.mem_singleton.1 hc
        omega
/-- A word's number: the reference, the program. -/
def rwS (w : List UInt8) : Option Int := if w = [45] then some (-1) else match numB w with | some n => if n ≤ 500 then some (n : Int) else none | none => none
def rwI (w : List UInt8) : Int := if w.head? = some 45 then -1 else IntKind.i16.wrap (pi16 w)
def InR (v : Int) : Prop := -1 ≤ v ∧ v ≤ 500
theorem cell_cases {v : Int} (h : InR v) : (v = -1 ∧ cellTx v = [45]) ∨ ∃ n : Nat, n ≤ 500 ∧ v = n ∧ cellTx v = Lib.decDigits n := by
  obtain ⟨h1, h2⟩ := h
  by_cases hn : v < 0
  · exact .inl ⟨by omega, if_pos hn⟩
  · exact .inr ⟨v.toNat, by omega, by omega, if_neg hn⟩
theorem dec_ne (n : Nat) {b : UInt8} (hb : b.toNat < 48) : b ∉ Lib.decDigits n := fun hm => by have := dec_digit n b hm; omega
theorem dec_ne45 (n : Nat) : Lib.decDigits n ≠ [45] := fun e => dec_ne n (b := 45) (by decide) (by rw [e]; simp)
theorem rwS_some {w : List UInt8} {v : Int} (h : rwS w = some v) : w = cellTx v ∧ InR v := by
  unfold rwS at h
  split at h
  · rename_i hw
    obtain rfl := Option.some.inj h
    exact ⟨hw, by decide, by decide⟩
  · split at h
    · rename_i n hn
      split at h
      · rename_i h5
        obtain rfl := Option.some.inj h
        refine ⟨?_, by omega, by omega⟩
        rw [numB_dec hn]
        unfold cellTx
        rw [if_neg (by omega), Int.toNat_natCast]
      · cases h
    · cases h
theorem rwS_cell {v : Int} (h : InR v) : rwS (cellTx v) = some v := by
  rcases cell_cases h with ⟨rfl, hc⟩ | ⟨n, hn, rfl, hc⟩
  · rw [hc]; rfl
  · rw [hc]
    unfold rwS
    rw [if_neg (dec_ne45 n), numB_of_dec (by omega)]
    simp only
    rw [if_pos hn]
theorem rwI_cell {v : Int} (h : InR v) : rwI (cellTx v) = v := by
  rcases cell_cases h with ⟨rfl, hc⟩ | ⟨n, hn, rfl, hc⟩
  · rw [hc]; rfl
  · rw [hc]
    unfold rwI
    rw [if_neg, pi16_dec (by omega)]
    · simp only [IntKind.wrap, IntKind.bits, IntKind.signed]; simp; omega
    · intro e
      cases hd : Lib.decDigits n with
      | nil => rw [hd] at e; cases e
      | cons c r =>
        rw [hd] at e
        obtain rfl := Option.some.inj e
        exact dec_ne n (b := 45) (by decide) (by rw [hd]; simp)
theorem cell_free {v : Int} (h : InR v) {b : UInt8} (hb : b.toNat < 45) : b ∉ cellTx v := by
  rcases cell_cases h with ⟨rfl, hc⟩ | ⟨n, hn, rfl, hc⟩
  · rw [hc]
    intro hm
    obtain rfl := List.mem_singleton.1 hm
    exact absurd hb (by decide)
  · rw [hc]; exact dec_ne n (by omega)
/-- The value at a place of a grid of words. -/
def gv (f : List UInt8 → Int) (g : List (List (List UInt8))) (y x : Nat) : Int := match g[y]? with | some row => (match row[x]? with | some w => f w | none => -1) | none => -1
def gr (f : List UInt8 → Int) (g : List (List (List UInt8))) : Nat → Int := fun j => gv f g (j / 8) (j % 8)
theorem gr_at (f : List UInt8 → Int) (g : List (List (List UInt8))) {y x : Nat} (hx : x < 8) : gr f g (y * 8 + x) = gv f g y x := by
  unfold gr
  rw [show (y * 8 + x) / 8 = y from by omega, show (y * 8 + x) % 8 = x from by omega]
theorem gv_word {f : List UInt8 → Int} {g : List (List (List UInt8))} {y x : Nat} {row : List (List UInt8)} {w : List UInt8} (h1 : g[y]? = some row) (h2 : row[x]? = some w) : gv f g y x = f w := by unfold gv; rw [h1]; simp only [h2]
/-- Lines ended by a byte. -/
def endl (L : List (List UInt8)) : List UInt8 := (L.map (· ++ [10])).flatten
theorem joinTail_endl : ∀ (L : List (List UInt8)), Lib.joinTail [10] (L ++ [[]]) = 10 :: endl L
  | [] => by simp [Lib.joinTail, endl]
  | x :: r => by
    have h := joinTail_endl r
    have e : Lib.joinTail [10] (x :: r ++ [[]]) = ([10] ++ x) ++ Lib.joinTail [10] (r ++ [[]]) := by simp [Lib.joinTail]
    rw [e, h]
    simp [endl]
theorem join_endl : ∀ (L : List (List UInt8)), Lib.join (L ++ [[]]) [10] = endl L
  | [] => by show Lib.join [[]] [10] = _; rw [Lib.join_one]; rfl
  | x :: r => by
    rw [List.cons_append, Lib.join_cons, joinTail_endl]
    simp [endl]
theorem endl_next {L : List (List UInt8)} {k : Nat} {x : List UInt8} (h : L[k]? = some x) : endl (L.take (k + 1)) = endl (L.take k) ++ (x ++ [10]) := by
  unfold endl
  rw [List.take_add_one, h, List.map_append, List.flatten_append]; simp
/-- The text of a grid whose words are those of its values. -/
theorem rowW_row {r : Nat → Int} {y : Nat} {row : List (List UInt8)} (h : ∀ x w, row[x]? = some w → w = cellTx (r (y * 8 + x))) : ∀ x, x ≤ row.length → rowW (fun x y => cellTx (r (y * 8 + x))) y x = row.take x
  | 0, _ => rfl
  | x + 1, hx => by
    have hw : row[x]? = some row[x] := List.getElem?_eq_getElem (by omega)
    rw [rowW_next, rowW_row h x (by omega), List.take_add_one, hw, ← h x _ hw]; rfl
theorem ring_endl {r : Nat → Int} {W : Nat} {L : List (List UInt8)} (h : ∀ y l, L[y]? = some l → (sp 32 l).length = W ∧ ∀ x w, (sp 32 l)[x]? = some w → w = cellTx (r (y * 8 + x))) : ∀ k, k ≤ L.length → ringTx r W k = endl (L.take k)
  | 0, _ => rfl
  | k + 1, hk => by
    have hl : L[k]? = some L[k] := List.getElem?_eq_getElem (by omega)
    obtain ⟨h1, h2⟩ := h k _ hl
    rw [endl_next hl, ← ring_endl h k (by omega)]
    show ringTx r W k ++ (lineTx r k W ++ [10]) = _
    rw [← row_line, rowW_row h2 W (by omega), ← h1, List.take_length, join_sp]
/-- The grid that the reference reads, and that the program reads. -/
def rowOkS (W : Nat) (l : List UInt8) : Prop := (sp 32 l).length = W ∧ ∀ w ∈ sp 32 l, rwS w ≠ none
def SOk (W H : Nat) (t : List UInt8) : Prop := (sp 10 t).length = H + 1 ∧ (sp 10 t)[H]? = some [] ∧ ∀ l ∈ (sp 10 t).take H, rowOkS W l
def trim (t : List UInt8) : List UInt8 := if t.getLast? = some 10 then t.dropLast else t
def iG (t : List UInt8) : List (List (List UInt8)) := (sp 10 (trim t)).map (sp 32)
def IOk (W H : Nat) (t : List UInt8) : Prop := (iG t).length = H ∧ ∀ row ∈ iG t, row.length = W
def rwV (w : List UInt8) : Int := (rwS w).getD (-1)
theorem endl_last : ∀ {L : List (List UInt8)}, L ≠ [] → (endl L).getLast? = some 10 ∧ (endl L).dropLast = Lib.join L [10] := by
  intro L hL
  have h : endl L = Lib.join L [10] ++ [10] := by
    cases L with
    | nil => exact absurd rfl hL
    | cons x r =>
      rw [← join_endl, List.cons_append, Lib.join_cons, Lib.join_cons, joinTail_snoc]
      simp
  rw [h]
  simp
theorem ring_lines {r : Nat → Int} {W : Nat} (hr : ∀ j, j < 64 → InR (r j)) (hW : 0 < W) (W8 : W ≤ 8) {y : Nat} (hy : y < 8) : (10 : UInt8) ∉ lineTx r y W ∧ sp 32 (lineTx r y W) = rowW (fun x y => cellTx (r (y * 8 + x))) y W := by
  have hm : ∀ z ∈ rowW (fun x y => cellTx (r (y * 8 + x))) y W, ∃ v, InR v ∧ z = cellTx v := fun z hz => by
    obtain ⟨j, hj, rfl⟩ := rowW_mem hz
    exact ⟨_, hr (y * 8 + j) (by omega), rfl⟩
  have hl := rowW_len (fun x y => cellTx (r (y * 8 + x))) y W
  rw [← row_line]
  generalize rowW (fun x y => cellTx (r (y * 8 + x))) y W = ws at *
  cases ws with
  | nil => simp at hl; omega
  | cons x ws =>
    refine ⟨?_, sp_join (fun z hz => by obtain ⟨v, hv, rfl⟩ := hm z hz; exact cell_free hv (by decide))⟩
    have key : ∀ (l : List (List UInt8)), (∀ z ∈ l, ∃ v, InR v ∧ z = cellTx v) → (10 : UInt8) ∉ Lib.joinTail [32] l := by
      intro l
      induction l with
      | nil => intro _ h; simp [Lib.joinTail] at h
      | cons a l ih =>
        intro ha h
        have e : Lib.joinTail [32] (a :: l) = ([32] ++ a) ++ Lib.joinTail [32] l := by simp [Lib.joinTail]
        rw [e] at h
        rcases List.mem_append.1 h with h | h
        · rcases List.mem_append.1 h with h | h
          · revert h; decide
          · obtain ⟨v, hv, rfl⟩ := ha a (by simp); exact cell_free hv (by decide) h
        · exact ih (fun z hz => ha z (List.mem_cons_of_mem _ hz)) h
    rw [Lib.join_cons]
    intro h
    rcases List.mem_append.1 h with h | h
    · obtain ⟨v, hv, rfl⟩ := hm x (by simp); exact cell_free hv (by decide) h
    · exact key ws (fun z hz => hm z (List.mem_cons_of_mem _ hz)) h
def linesL (r : Nat → Int) (W : Nat) : Nat → List (List UInt8)
  | 0 => []
  | y + 1 => linesL r W y ++ [lineTx r y W]
theorem linesL_len (r : Nat → Int) (W : Nat) : ∀ y, (linesL r W y).length = y
  | 0 => rfl
  | y + 1 => by show (linesL r W y ++ _).length = _; rw [List.length_append, linesL_len r W y]; rfl
theorem linesL_endl (r : Nat → Int) (W : Nat) : ∀ y, ringTx r W y = endl (linesL r W y)
  | 0 => rfl
  | y + 1 => by
    show ringTx r W y ++ (lineTx r y W ++ [10]) = endl (linesL r W y ++ [lineTx r y W])
    rw [linesL_endl r W y]
    simp [endl]
theorem linesL_mem {r : Nat → Int} {W : Nat} : ∀ {H : Nat} {l : List UInt8}, l ∈ linesL r W H → ∃ y, y < H ∧ l = lineTx r y W
  | 0, l, h => by cases h
  | H + 1, l, h => by
    rcases List.mem_append.1 h with h | h
    · obtain ⟨y, hy, e⟩ := linesL_mem h; exact ⟨y, by omega, e⟩
    · exact ⟨H, by omega, List.mem_singleton.1 h⟩
/-- A text of rings is read by the reference. -/
theorem ring_SOk {r : Nat → Int} {W H : Nat} (hr : ∀ j, j < 64 → InR (r j)) (hW : 0 < W) (W8 : W ≤ 8) (hH : 0 < H) (H8 : H ≤ 8) : SOk W H (ringTx r W H) := by
  have hj : ringTx r W H = Lib.join (linesL r W H ++ [[]]) [10] := by rw [join_endl, linesL_endl]
  have hs : sp 10 (ringTx r W H) = linesL r W H ++ [[]] := by
    rw [hj]
    have hl := linesL_len r W H
    have hm : ∀ z ∈ linesL r W H ++ [[]], (10 : UInt8) ∉ z := fun z hz => by
      rcases List.mem_append.1 hz with hz | hz
      · obtain ⟨y, hy, rfl⟩ := linesL_mem hz
        exact (ring_lines hr hW W8 (by omega)).1
      · obtain rfl := List.mem_singleton.1 hz; simp
    cases hq : linesL r W H with
    | nil => rw [hq] at hl; simp at hl; omega
    | cons x ws =>
      rw [hq] at hm
      rw [List.cons_append] at hm ⊢
      exact sp_join hm
  have hl := linesL_len r W H
  unfold SOk
  rw [hs]
  refine ⟨by rw [List.length_append, hl]; rfl, by rw [List.getElem?_append_right (by omega), hl, Nat.sub_self]; rfl, fun l hm => ?_⟩
  rw [List.take_append_of_le_length (by omega), List.take_of_length_le (by omega)] at hm
  obtain ⟨y, hy, rfl⟩ := linesL_mem hm
  have h2 := (ring_lines hr hW W8 (y := y) (by omega)).2
  unfold rowOkS
  rw [h2]
  refine ⟨rowW_len _ _ _, fun w hw => ?_⟩
  obtain ⟨j, hj, rfl⟩ := rowW_mem hw
  rw [rwS_cell (hr (y * 8 + j) (by omega))]
  exact fun e => by cases e
/-- What the reference reads, the program reads too, and its text is the text. -/
theorem SOk_lines {W H : Nat} {t : List UInt8} (h : SOk W H t) (hH : 0 < H) : ∃ L : List (List UInt8), L.length = H ∧ (∀ l ∈ L, rowOkS W l) ∧ t = endl L ∧ iG t = L.map (sp 32) ∧ sp 10 t = L ++ [[]] := by
  obtain ⟨h1, h2, h3⟩ := h
  have hj := join_sp 10 t
  have hfree := fun x (hx : x ∈ sp 10 t) => sp_free (b := 10) hx
  have hsp : sp 10 t = (sp 10 t).take H ++ [[]] := by
    conv => lhs; rw [← List.take_append_drop H (sp 10 t)]
    congr 1
    rw [List.drop_eq_getElem_cons (by omega), List.drop_eq_nil_of_le (by omega)]
    have := (List.getElem?_eq_some_iff.1 h2).2
    rw [this]
  have hl : ((sp 10 t).take H).length = H := by rw [List.length_take]; omega
  generalize (sp 10 t).take H = L at *
  rw [hsp] at hj hfree
  rw [join_endl] at hj
  have hne : L ≠ [] := fun e => by rw [e] at hl; simp at hl; omega
  have he := endl_last hne
  refine ⟨L, hl, h3, hj.symm, ?_, hsp⟩
  unfold iG trim
  rw [← hj, if_pos he.1, he.2]
  congr 1
  cases L with
  | nil => exact absurd rfl hne
  | cons x r => exact sp_join (fun y hy => hfree y (List.mem_append_left _ hy))
theorem rw_ok {w : List UInt8} (h : rwS w ≠ none) : InR (rwI w) ∧ w = cellTx (rwI w) ∧ rwV w = rwI w := by
  cases hv : rwS w with
  | none => exact absurd hv h
  | some v =>
    obtain ⟨h1, h2⟩ := rwS_some hv
    have h3 : rwI w = v := by rw [h1]; exact rwI_cell h2
    refine ⟨by rw [h3]; exact h2, by rw [h3]; exact h1, ?_⟩
    unfold rwV
    rw [hv, h3]; rfl
theorem grid_in {W : Nat} {L : List (List UInt8)} (h : ∀ l ∈ L, rowOkS W l) (y x : Nat) : InR (gv rwI (L.map (sp 32)) y x) ∧ gv rwV (L.map (sp 32)) y x = gv rwI (L.map (sp 32)) y x ∧ (¬ (y < L.length ∧ x < W) → gv rwI (L.map (sp 32)) y x = -1) := by
  unfold gv
  rw [List.getElem?_map]
  cases hy : L[y]? with
  | none => exact ⟨⟨(by show (-1 : Int) ≤ -1; decide), (by show (-1 : Int) ≤ 500; decide)⟩, rfl, fun _ => rfl⟩
  | some l =>
    simp only [Option.map_some]
    have hm := h l (List.mem_of_getElem? hy)
    cases hx : (sp 32 l)[x]? with
    | none => exact ⟨⟨(by show (-1 : Int) ≤ -1; decide), (by show (-1 : Int) ≤ 500; decide)⟩, rfl, fun _ => rfl⟩
    | some w =>
      have hw := rw_ok (hm.2 w (List.mem_of_getElem? hx))
      refine ⟨hw.1, hw.2.2, fun hn => ?_⟩
      exfalso
      apply hn
      have h1 := (List.getElem?_eq_some_iff.1 hy).1
      have h2 := (List.getElem?_eq_some_iff.1 hx).1
      rw [hm.1] at h2
      exact ⟨h1, h2⟩
theorem rings_read {c : Nat → Int} {W H : Nat} (hc0 : c 0 = W) (hc1 : c 1 = H) (hW : 0 < W) (W8 : W ≤ 8) (hH : 0 < H) (H8 : H ≤ 8) (t : List UInt8) :
    (SOk W H t ∧ IOk W H t ∧ gr rwV (iG t) = gr rwI (iG t) ∧ ringB c (gr rwI (iG t)) = true ∧ ringTx (gr rwI (iG t)) W H = t) ∨ (¬ SOk W H t ∧ ¬ (IOk W H t ∧ ringB c (gr rwI (iG t)) = true ∧ ringTx (gr rwI (iG t)) W H = t)) := by
  by_cases hs : SOk W H t
  · refine .inl ⟨hs, ?_⟩
    obtain ⟨L, hl, hrow, ht, hg, -⟩ := SOk_lines hs hH
    unfold IOk
    rw [hg]
    refine ⟨⟨by rw [List.length_map]; exact hl, fun row hr => ?_⟩, funext fun j => (grid_in hrow (j / 8) (j % 8)).2.1, ringB_yes (fun i j hi hj => ?_), ?_⟩
    · obtain ⟨l, hm, rfl⟩ := List.mem_map.1 hr
      exact (hrow l hm).1
    · have hq := grid_in hrow i j
      unfold ringC
      rw [gr_at _ _ hj, inB_true.2 hq.1, Bool.true_and, Bool.or_eq_true]
      by_cases hin : i < L.length ∧ j < W
      · refine .inl ?_
        unfold isP
        rw [hc0, hc1, inB_true.2 (show (0 : Int) ≤ (j : Int) ∧ (j : Int) ≤ (W : Int) - 1 by omega), inB_true.2 (show (0 : Int) ≤ (i : Int) ∧ (i : Int) ≤ (H : Int) - 1 by omega)]; rfl
      · exact .inr (decide_eq_true (hq.2.2 hin))
    · have hr := ring_endl (r := gr rwI (L.map (sp 32))) (W := W) (L := L) (fun y l hy => by
        have hm := hrow l (List.mem_of_getElem? hy)
        refine ⟨hm.1, fun x w hx => ?_⟩
        have h2 := (List.getElem?_eq_some_iff.1 hx).1
        rw [hm.1] at h2
        rw [gr_at _ _ (by omega), gv_word (row := sp 32 l) (by rw [List.getElem?_map, hy]; rfl) hx]
        exact (rw_ok (hm.2 w (List.mem_of_getElem? hx))).2.1) H (by omega)
      rw [hr, ← hl, List.take_length]
      exact ht.symm
  · refine .inr ⟨hs, fun ⟨h1, h2, h3⟩ => hs ?_⟩
    rw [← h3]
    exact ring_SOk (ringB_ok h2) hW W8 hH H8
end Go.Proofs.YtkdfkhjoijfcdaaDoor
/- The lines of a text and their words: the program. -/
namespace Go.Proofs.YtkdfkhjoijfcdaaDoor
open Go.RowKit
set_option linter.unusedVariables false
set_option linter.unusedSimpArgs false
set_option maxRecDepth 100000
theorem trim_is (t : List UInt8) : (⟨(Lib.trimSuffix (tx t).data.toList (tx [10]).data.toList).toArray⟩ : ByteArray) = tx (trim t) := by
  show (⟨(Lib.trimSuffix t [10]).toArray⟩ : ByteArray) = ⟨(trim t).toArray⟩
  congr 2
  unfold Lib.trimSuffix Lib.hasSuffix trim
  rcases List.eq_nil_or_concat t with rfl | ⟨r, c, rfl⟩
  · rfl
  · rw [List.concat_eq_append]
    by_cases hc : c = 10
    · subst hc
      simp
    · have h1 : ([10] : List UInt8).isSuffixOf (r ++ [c]) = false := by
        rw [Bool.eq_false_iff]
        intro h
        rw [List.isSuffixOf_iff_suffix] at h
        obtain ⟨q, hq⟩ := h
        have := congrArg List.getLast? hq
        simp at this
        exact hc this.symm
      rw [h1]
      simp [hc]
theorem trim_len (t : List UInt8) : (trim t).length ≤ t.length := by
  unfold trim
  split
  · rw [List.length_dropLast]; omega
  · exact Nat.le_refl _
/-- Rows of words, each in a block of its own. -/
abbrev Gw := List (Nat × List (List UInt8))
def GrV (D : Gw) : List Value := D.map fun p => .slice (some ⟨p.1, 0, none⟩) p.2.length p.2.length
def GrW (w : World) (base : Nat) (D : Gw) : Prop := ∀ p ∈ D, base ≤ p.1 ∧ p.1 < w.heap.size ∧ p.2 ≠ [] ∧ rowOf w p.1 = (strV p.2).toArray
theorem GrW.keep {w w' : World} {base : Nat} {D : Gw} (h : GrW w base D) (hs : w.heap.size ≤ w'.heap.size) (hk : ∀ p ∈ D, rowOf w' p.1 = rowOf w p.1) : GrW w' base D := fun p hp => by
  obtain ⟨h1, h2, h3, h4⟩ := h p hp
  exact ⟨h1, by omega, h3, by rw [hk p hp]; exact h4⟩
theorem GrW.snoc {w : World} {base : Nat} {D : Gw} (h : GrW w base D) {b : Nat} {ws : List (List UInt8)} (h1 : base ≤ b) (h2 : b < w.heap.size) (h3 : ws ≠ []) (h4 : rowOf w b = (strV ws).toArray) : GrW w base (D ++ [(b, ws)]) := fun p hp => by
  rcases List.mem_append.1 hp with hp | hp
  · exact h p hp
  · obtain rfl := List.mem_singleton.1 hp
    exact ⟨h1, h2, h3, h4⟩
theorem grV_snoc (D : Gw) (b : Nat) (ws : List (List UInt8)) : GrV (D ++ [(b, ws)]) = GrV D ++ [.slice (some ⟨b, 0, none⟩) ws.length ws.length] := by unfold GrV; rw [List.map_append]; rfl
/-- The first cell of a row that is owned. -/
theorem own_cells {w : World} {base : Nat} {e : TypeId} {g cap n : Nat} {xs : List Value} (h : w.ownsRow base e 1 (.slice (some ⟨g, 0, none⟩) n cap) n xs) : g < w.heap.size ∧ base ≤ g ∧ ∀ (j : Nat) x, xs[j]? = some x → (rowOf w g)[j]? = some x := by
  obtain ⟨hl, ⟨h0, -⟩ | ⟨g', cap', cur, hv, hb, hg, h1, h2, h3, ht⟩⟩ := h
  · cases h0
  · simp only [Value.slice.injEq, Option.some.injEq, Addr.mk.injEq] at hv
    obtain ⟨⟨rfl, -, -⟩, -, rfl⟩ := hv
    refine ⟨(Array.getElem?_eq_some_iff.1 hg).1, hb, fun j x hx => ?_⟩
    have hrow : rowOf w g = cur := by simp [rowOf, hg, objRow]
    rw [hrow, ← Array.getElem?_toList]
    have hj : j < n := by have := (List.getElem?_eq_some_iff.1 hx).1; omega
    have := congrArg (fun q => q[j]?) ht
    simp only [List.getElem?_take] at this
    rw [if_pos (by omega)] at this
    rw [this]
    exact hx
/-- The block of the rows is none of the blocks that are known otherwise. -/
theorem gr_apart {w : World} {base : Nat} {e : TypeId} {g cap n : Nat} {D : Gw} (h : w.ownsRow base e 1 (.slice (some ⟨g, 0, none⟩) n cap) n (GrV D)) (hD : GrW w base D) (hn : 0 < n) :
    (∀ p ∈ D, p.1 ≠ g) ∧ (∀ q, rowOf w q = #[.slice (some ⟨g, 0, none⟩) n cap] → q ≠ g) ∧ ∀ q c, rowOf w q = kc sk 266 c → q ≠ g := by
  obtain ⟨hg, hbg, hc⟩ := own_cells h
  have hl : (GrV D).length = n := by have := h.1; omega
  have hlD : D.length = n := by rw [← hl]; unfold GrV; rw [List.length_map]
  match D, hlD with
  | [], hlD => simp at hlD; omega
  | d :: D', _ =>
    have h0 : (rowOf w g)[0]? = some (.slice (some ⟨d.1, 0, none⟩) d.2.length d.2.length) := hc 0 _ rfl
    have hA : ∀ p ∈ d :: D', p.1 ≠ g := fun p hp e => by
      obtain ⟨_, _, h3, h4⟩ := hD p hp
      rw [e] at h4
      rw [h4] at h0
      match hp2 : p.2, h3 with
      | [], h3 => exact h3 rfl
      | x :: r, _ =>
        rw [hp2] at h0
        simp [strV] at h0
    refine ⟨hA, fun q hq e => ?_, fun q c hq e => ?_⟩
    · subst e
      rw [hq] at h0
      simp at h0
      exact hA d (by simp) h0.1.symm
    · subst e
      rw [hq] at h0
      have h1 : (kc sk 266 c)[0]? = some (.int (sk 0) (c 0)) := rfl
      rw [h1] at h0
      cases h0
/-- A grid of words that is read. -/
def GridV (w : World) (v : Value) (G : List (List (List UInt8))) : Prop := ∃ g cap, v = .slice (some ⟨g, 0, none⟩) G.length cap ∧ g < w.heap.size ∧ ∀ (y : Nat) (row : List (List UInt8)), G[y]? = some row → ∃ (b cp : Nat), (rowOf w g)[y]? = some (Value.slice (some ⟨b, 0, none⟩) row.length cp) ∧ b < w.heap.size ∧ ∀ (x : Nat) (wd : List UInt8), row[x]? = some wd → (rowOf w b)[x]? = some (Value.string (tx wd))
theorem GridV.below {w w' : World} {v : Value} {G : List (List (List UInt8))} (h : GridV w v G) {B : Nat} (hb : Below B w w') (hB : w.heap.size ≤ B) : GridV w' v G := by
  obtain ⟨g, cap, rfl, hg, hc⟩ := h
  have hs := hb.size
  refine ⟨g, cap, rfl, by omega, fun y row hy => ?_⟩
  obtain ⟨b, cp, h1, h2, h3⟩ := hc y row hy
  exact ⟨b, cp, by rw [keep_row hb (by omega)]; exact h1, by omega, fun x wd hx => by rw [keep_row hb (by omega)]; exact h3 x wd hx⟩
theorem GridV.of {w : World} {base : Nat} {e : TypeId} {g cap n : Nat} {D : Gw} (h : w.ownsRow base e 1 (.slice (some ⟨g, 0, none⟩) n cap) n (GrV D)) (hD : GrW w base D) {G : List (List (List UInt8))} (hG : D.map Prod.snd = G) : GridV w (.slice (some ⟨g, 0, none⟩) n cap) G := by
  obtain ⟨hg, -, hc⟩ := own_cells h
  have hl : (GrV D).length = n := by have := h.1; omega
  have hlD : G.length = n := by rw [← hl, ← hG]; unfold GrV; rw [List.length_map, List.length_map]
  refine ⟨g, cap, by rw [hlD], hg, fun y row hy => ?_⟩
  rw [← hG, List.getElem?_map] at hy
  cases hd : D[y]? with
  | none => rw [hd] at hy; cases hy
  | some d =>
    rw [hd] at hy
    obtain rfl := Option.some.inj hy
    obtain ⟨-, h2, -, h4⟩ := hD d (List.mem_of_getElem? hd)
    refine ⟨d.1, d.2.length, hc y _ (by unfold GrV; rw [List.getElem?_map, hd]; rfl), h2, fun x wd hx => ?_⟩
    rw [h4, List.getElem?_toArray]
    unfold strV
    rw [List.getElem?_map, hx]; rfl
theorem GridV.other {w w' : World} {v : Value} {G : List (List (List UInt8))} (h : GridV w v G) (hG : ∀ r ∈ G, r ≠ []) (hs : w.heap.size ≤ w'.heap.size) (hk : ∀ b, b < w.heap.size → (∀ k z, (rowOf w b)[0]? ≠ some (.int k z)) → rowOf w' b = rowOf w b) : GridV w' v G := by
  obtain ⟨g, cap, rfl, hg, hc⟩ := h
  refine ⟨g, cap, rfl, by omega, fun y row hy => ?_⟩
  obtain ⟨b, cp, h1, h2, h3⟩ := hc y row hy
  have hne : row ≠ [] := hG row (List.mem_of_getElem? hy)
  obtain ⟨r0, hr0⟩ : ∃ r0, G[0]? = some r0 := ⟨_, List.getElem?_eq_getElem (by have := (List.getElem?_eq_some_iff.1 hy).1; omega)⟩
  obtain ⟨b0, c0, h01, -, -⟩ := hc 0 r0 hr0
  refine ⟨b, cp, by rw [hk g hg (fun k z e => by rw [e] at h01; cases h01)]; exact h1, by omega, fun x wd hx => ?_⟩
  obtain ⟨w0, hw0⟩ : ∃ w0, row[0]? = some w0 := ⟨_, List.getElem?_eq_getElem (List.length_pos_iff.2 hne)⟩
  have h30 := h3 0 w0 hw0
  rw [hk b h2 (fun k z e => by rw [e] at h30; cases h30)]
  exact h3 x wd hx
/-- A row of words fits among rows. -/
def fitR (G : List (List (List UInt8))) (row : List (List UInt8)) : Bool := decide (row.length ≤ 8) && decide (row.length = (G.headD []).length)
def rlB (G : List (List (List UInt8))) : Bool := decide (G.length ≤ 8) && G.all (fitR G)
def rlC (G : List (List (List UInt8))) : Nat → Int := if rlB G = true then fun j => if j = 0 then ((G.headD []).length : Int) else if j = 1 then (G.length : Int) else 0 else fun _ => 0
def FitTo (G : List (List (List UInt8))) (k : Nat) : Prop := ∀ j row, j < k → G[j]? = some row → fitR G row = true
theorem fitTo_next {G : List (List (List UInt8))} {k : Nat} {row : List (List UInt8)} (h : FitTo G k) (hk : G[k]? = some row) (hf : fitR G row = true) : FitTo G (k + 1) := fun j r hj hr => by
  rcases Nat.lt_succ_iff_lt_or_eq.1 hj with h2 | rfl
  · exact h j r h2 hr
  · rw [hk] at hr
    obtain rfl := Option.some.inj hr
    exact hf
theorem fitTo_all {G : List (List (List UInt8))} (h : FitTo G G.length) : G.all (fitR G) = true := by
  rw [List.all_eq_true]
  intro r hr
  obtain ⟨j, hj, rfl⟩ := List.getElem_of_mem hr
  exact h j _ hj (List.getElem?_eq_getElem hj)
theorem fit_none {G : List (List (List UInt8))} {k : Nat} {row : List (List UInt8)} (hk : G[k]? = some row) (hf : fitR G row = false) : G.all (fitR G) = false := by
  rw [Bool.eq_false_iff]
  intro h
  rw [List.all_eq_true] at h
  rw [h row (List.mem_of_getElem? hk)] at hf
  cases hf
theorem strs_info : ∃ i z, Tryd.prog.info? 41 = some i ∧ i.zero = some z ∧ i.size = 1 ∧ i.bytes = 24 ∧ z.cells.size = 1 := by
  have h : (match Tryd.prog.info? 41 with | some i => (match i.zero with | some z => i.size == 1 && i.bytes == 24 && z.cells.size == 1 | none => false) | none => false) = true := by kernel_rfl
  split at h
  · rename_i i hi
    split at h
    · rename_i z hz
      simp only [Bool.and_eq_true, beq_iff_eq] at h
      exact ⟨i, z, hi, hz, h.1.1, h.1.2, h.2⟩
    · cases h
  · cases h
theorem parse16_any (l : List UInt8) (hl : l.length ≤ 1048576) (w : World) (h : RdW w) :
    Calls Tryd.prog 38 #[.string (tx l), .int .i64 10, .int .i64 16] w fun e w' => ∃ er, e = .returned (.tuple #[.int .i64 (pi16 l), er]) ∧ Below w.heap.size w w' := by
  have hsz : (tx l).size ≤ 1048576 := by rw [tx_size]; exact hl
  cases hp : Lib.parseIntB 16 l with
  | ok v =>
    have e1 : pi16 l = v := by unfold pi16; rw [hp]
    rw [e1]
    refine (Tryd.strconv_ParseInt_10_at16_ok (tx l) (by omega) v hp w).mono fun e w' hq => ?_
    obtain ⟨he, rfl | ⟨t, rfl⟩⟩ := hq
    · exact ⟨_, he, by repeat' (first | with_reducible exact Below.refl _ _ | with_reducible assumption | with_reducible refine Below.drew ?_ | with_reducible refine Below.drewN ?_ _ | with_reducible refine Below.alloc ?_ ?_ _ | with_reducible refine Below.setCell ?_ ?_ _ | with_reducible refine Below.setRow ?_ ?_ _ | with_reducible refine below_step (by assumption) ?_ ?_ | (show (_ : Nat) ≤ _; first | omega | (simp <;> omega)))⟩
    · exact ⟨_, he, below_bytes _ _ _⟩
  | «syntax» =>
    have e1 : pi16 l = 0 := by unfold pi16; rw [hp]
    obtain ⟨tp, p, hv⟩ := h.syn
    rw [e1]
    refine (Tryd.strconv_ParseInt_10_at16_syntax_var (tx l) (by omega) hp tp p w hv).mono fun e w' hq => ?_
    obtain ⟨N, he, _, _, hb⟩ := hq
    exact ⟨_, he, hb⟩
  | range =>
    have e1 : pi16 l = Lib.intSat 16 l := by unfold pi16; rw [hp]
    obtain ⟨tp, p, hv⟩ := h.ran
    rw [e1]
    refine (Tryd.strconv_ParseInt_10_at16_range_var (tx l) (by omega) hp tp p w hv).mono fun e w' hq => ?_
    obtain ⟨N, he, _, _, hb⟩ := hq
    exact ⟨_, he, hb⟩
theorem readSmall_any (l : List UInt8) (hl : l.length ≤ 1048576) (w : World) (h : RdW w) :
    Calls Tryd.prog 19 #[.string (tx l)] w fun e w' => e = .returned (.int .i16 (IntKind.i16.wrap (pi16 l))) ∧ Below w.heap.size w w' := by
  have HP := Lib.hid (fun w h => parse16_any l hl w h)
  have HR := Lib.hid h
  clear h
  generalize pi16 l = n at *
  generalize hm : IntKind.i16.wrap n = m at *
  go_enter Tryd.func19, Tryd.ntmps19
  go_wp2_with (go_at_call 38; (with_reducible refine (HP.out _ (HR.out.below (by repeat' (first | with_reducible exact Below.refl _ _ | with_reducible assumption | with_reducible refine Below.drew ?_ | with_reducible refine Below.drewN ?_ _ | with_reducible refine Below.alloc ?_ ?_ _ | with_reducible refine Below.setCell ?_ ?_ _ | with_reducible refine Below.setRow ?_ ?_ _ | with_reducible refine below_step (by assumption) ?_ ?_ | (show (_ : Nat) ≤ _; first | omega | (simp <;> omega)))))).mono ?_); rintro e wp ⟨er, rfl, hbp⟩; have r_hbp := keep_rowA hbp; have f_hbp := keep_frA hbp; have s_hbp := hbp.size; (try simp only [World.size_alloc, World.size_setCell, setRow_size, World.size_drew, size_drewNm] at r_hbp f_hbp s_hbp))
  go_ret
  exact ⟨rfl, by repeat' (first | with_reducible exact Below.refl _ _ | with_reducible assumption | with_reducible refine Below.drew ?_ | with_reducible refine Below.drewN ?_ _ | with_reducible refine Below.alloc ?_ ?_ _ | with_reducible refine Below.setCell ?_ ?_ _ | with_reducible refine Below.setRow ?_ ?_ _ | with_reducible refine below_step (by assumption) ?_ ?_ | (show (_ : Nat) ≤ _; first | omega | (simp <;> omega)))⟩
theorem badRow_any (q : Nat) (v : Value) (G : List (List (List UInt8))) (hG : G.length ≤ 1048577) (hG2 : ∀ r ∈ G, r.length ≤ 1048577) (k : Nat) (row : List (List UInt8)) (hk : G[k]? = some row) (bk ck : Nat) (w : World) (hq : rowOf w q = #[v]) (hqs : q < w.heap.size) (h : GridV w v G) :
    Calls Tryd.prog 36 #[.slice (some ⟨bk, 0, none⟩) row.length ck, .pointer (some ⟨q, 0, none⟩)] w fun e w' => e = .returned (.bool (!(fitR G row))) ∧ Below w.heap.size w w' := by
  obtain ⟨g, cap, rfl, hg, hc⟩ := h
  have hlt := (List.getElem?_eq_some_iff.1 hk).1
  obtain ⟨r0, hr0⟩ : ∃ r0, G[0]? = some r0 := ⟨_, List.getElem?_eq_getElem (by omega)⟩
  obtain ⟨b0, c0, h0, -, -⟩ := hc 0 r0 hr0
  have hhead : G.headD [] = r0 := by
    cases G with
    | nil => cases hr0
    | cons a r => obtain rfl := Option.some.inj hr0; rfl
  have hf : fitR G row = (decide (row.length ≤ 8) && decide (row.length = r0.length)) := by unfold fitR; rw [hhead]
  have h1 := hG2 row (List.mem_of_getElem? hk)
  have h2 := hG2 r0 (List.mem_of_getElem? hr0)
  rw [hf]
  clear hc hf hhead hk hr0 hG2
  generalize row.length = n at *
  generalize r0.length = m at *
  by_cases h8 : n ≤ 8
  · have hd : decide ((8 : Int) < (n : Int)) = false := decide_eq_false (by omega)
    by_cases hnm : n = m
    · subst hnm
      rw [decide_eq_true h8, decide_eq_true rfl]
      go_enter Tryd.func36, Tryd.ntmps36
      go_wp2
      go_ret
      exact ⟨rfl, by repeat' (first | with_reducible exact Below.refl _ _ | with_reducible assumption | with_reducible refine Below.drew ?_ | with_reducible refine Below.drewN ?_ _ | with_reducible refine Below.alloc ?_ ?_ _ | with_reducible refine Below.setCell ?_ ?_ _ | with_reducible refine Below.setRow ?_ ?_ _ | with_reducible refine below_step (by assumption) ?_ ?_ | (show (_ : Nat) ≤ _; first | omega | (simp <;> omega)))⟩
    · have hne : ((n : Int) != (m : Int)) = true := by rw [bne_iff_ne]; omega
      rw [decide_eq_true h8, decide_eq_false hnm]
      go_enter Tryd.func36, Tryd.ntmps36
      go_wp2
      go_ret
      exact ⟨by first | rfl | (show Ending.returned (.bool ((n : Int) != (m : Int))) = _; rw [hne]; rfl), by repeat' (first | with_reducible exact Below.refl _ _ | with_reducible assumption | with_reducible refine Below.drew ?_ | with_reducible refine Below.drewN ?_ _ | with_reducible refine Below.alloc ?_ ?_ _ | with_reducible refine Below.setCell ?_ ?_ _ | with_reducible refine Below.setRow ?_ ?_ _ | with_reducible refine below_step (by assumption) ?_ ?_ | (show (_ : Nat) ≤ _; first | omega | (simp <;> omega)))⟩
  · have hd : decide ((8 : Int) < (n : Int)) = true := decide_eq_true (by omega)
    rw [decide_eq_false h8]
    go_enter Tryd.func36, Tryd.ntmps36
    go_wp2
    go_ret
    exact ⟨rfl, by repeat' (first | with_reducible exact Below.refl _ _ | with_reducible assumption | with_reducible refine Below.drew ?_ | with_reducible refine Below.drewN ?_ _ | with_reducible refine Below.alloc ?_ ?_ _ | with_reducible refine Below.setCell ?_ ?_ _ | with_reducible refine Below.setRow ?_ ?_ _ | with_reducible refine below_step (by assumption) ?_ ?_ | (show (_ : Nat) ≤ _; first | omega | (simp <;> omega)))⟩
set_option maxHeartbeats 4000000 in
theorem badFrom_any (q : Nat) (v : Value) (G : List (List (List UInt8))) (hG : G.length ≤ 1048577) (hG2 : ∀ r ∈ G, r.length ≤ 1048577) (w : World) (hq : rowOf w q = #[v]) (hqs : q < w.heap.size) (h : GridV w v G) :
    Calls Tryd.prog 45 #[v, .func (.func 36) #[] #[.pointer (some ⟨q, 0, none⟩)]] w fun e w' => ∃ k : Int, e = .returned (.int .i64 k) ∧ decide (0 ≤ k) = (!(G.all (fitR G))) ∧ -1 ≤ k ∧ k ≤ G.length ∧ Below w.heap.size w w' := by
  have HH := Lib.hid h
  have HG2 := Lib.hid hG2
  obtain ⟨g, cap, rfl, hg, -⟩ := h
  clear hG2
  go_enter Tryd.func45, Tryd.ntmps45
  go_wp2
  go_loopw [8] (fun i wr => ∃ k : Nat, k ≤ G.length ∧ i = .int .i64 k ∧ Below w.heap.size w wr ∧ FitTo G k) (fun i wr => G.length + 1 - (intOf i).toNat)
  case atStart => exact ⟨0, by omega, rfl, by repeat' (first | with_reducible exact Below.refl _ _ | with_reducible assumption | with_reducible refine Below.drew ?_ | with_reducible refine Below.drewN ?_ _ | with_reducible refine Below.alloc ?_ ?_ _ | with_reducible refine Below.setCell ?_ ?_ _ | with_reducible refine Below.setRow ?_ ?_ _ | with_reducible refine below_step (by assumption) ?_ ?_ | (show (_ : Nat) ≤ _; first | omega | (simp <;> omega))), fun j r h1 => by omega⟩
  case round =>
    obtain ⟨k, hk1, rfl, hb, hin⟩ := hrel
    have hsz := hb.size
    have HIN := Lib.hid hin
    clear hin
    have hqr := keep_row hb hqs
    rw [hq] at hqr
    have hqw : q < wr.heap.size := Nat.lt_of_lt_of_le hqs hsz
    have HW := Lib.hid (HH.out.below hb (Nat.le_refl _))
    by_cases hlt : k < G.length
    · obtain ⟨row, hrow⟩ : ∃ row, G[k]? = some row := ⟨_, List.getElem?_eq_getElem hlt⟩
      obtain ⟨g', cap', hv, -, hc⟩ := HW.out
      simp only [Value.slice.injEq, Option.some.injEq, Addr.mk.injEq] at hv
      obtain ⟨⟨rfl, -, -⟩, -, rfl⟩ := hv
      obtain ⟨b, cp, hb1, -, -⟩ := hc k row hrow
      have hgw : g < wr.heap.size := by omega
      have hOS := fun w2 hq hqs h => badRow_any q (.slice (some ⟨g, 0, none⟩) G.length cap) G hG HG2.out k row hrow b cp w2 hq hqs h
      have hlt2 : (k : Int) < (G.length : Int) := by omega
      have hw1 : IntKind.i64.wrap ((k : Int) + 1) = ((k + 1 : Nat) : Int) := by rw [IntWalk.i64_in _ (by omega)]; rfl
      clear hc
      rcases Bool.eq_false_or_eq_true (fitR G row) with hs | hs
      · rw [hs] at hOS
        have HOS := Lib.hid hOS
        have HN := Lib.hid (fitTo_next HIN.out hrow hs)
        clear hOS hs hrow
        go_wp2_with ((go_at_call 36; refine (HOS.out _ (by (go_simp <;> (intros; omega))) (by first | omega | (simp <;> omega)) (HW.out.below (by repeat' (first | with_reducible exact Below.refl _ _ | with_reducible assumption | with_reducible refine Below.drew ?_ | with_reducible refine Below.drewN ?_ _ | with_reducible refine Below.alloc ?_ ?_ _ | with_reducible refine Below.setCell ?_ ?_ _ | with_reducible refine Below.setRow ?_ ?_ _ | with_reducible refine below_step (by assumption) ?_ ?_ | (show (_ : Nat) ≤ _; first | omega | (simp <;> omega)))) (Nat.le_refl _))).mono ?_; rintro e w1 ⟨rfl, hb1⟩; have r1 := keep_rowA hb1; have f1 := keep_frA hb1; have s1 := hb1.size; (try simp only [World.size_alloc, World.size_setCell, setRow_size, World.size_drew, size_drewNm] at r1 f1 s1)))
        go_roundw
        case rel => first | exact ⟨k + 1, by omega, by go_num, by repeat' (first | with_reducible exact Below.refl _ _ | with_reducible assumption | with_reducible refine Below.drew ?_ | with_reducible refine Below.drewN ?_ _ | with_reducible refine Below.alloc ?_ ?_ _ | with_reducible refine Below.setCell ?_ ?_ _ | with_reducible refine Below.setRow ?_ ?_ _ | with_reducible refine below_step (by assumption) ?_ ?_ | (show (_ : Nat) ≤ _; first | omega | (simp <;> omega))), HN.out⟩ | ((repeat (with_reducible apply Exists.intro)); refine And.intro ?_ ?_; rotate_left; (focus ((repeat' (with_reducible apply And.intro)) <;> rfl)); exact ⟨k + 1, by omega, by go_num, by repeat' (first | with_reducible exact Below.refl _ _ | with_reducible assumption | with_reducible refine Below.drew ?_ | with_reducible refine Below.drewN ?_ _ | with_reducible refine Below.alloc ?_ ?_ _ | with_reducible refine Below.setCell ?_ ?_ _ | with_reducible refine Below.setRow ?_ ?_ _ | with_reducible refine below_step (by assumption) ?_ ?_ | (show (_ : Nat) ≤ _; first | omega | (simp <;> omega))), HN.out⟩)
        case measure => simp [intOf] <;> omega
      · rw [hs] at hOS
        have HOS := Lib.hid hOS
        have HN := Lib.hid (fit_none hrow hs)
        clear hOS hs hrow
        go_wp2_with ((go_at_call 36; refine (HOS.out _ (by (go_simp <;> (intros; omega))) (by first | omega | (simp <;> omega)) (HW.out.below (by repeat' (first | with_reducible exact Below.refl _ _ | with_reducible assumption | with_reducible refine Below.drew ?_ | with_reducible refine Below.drewN ?_ _ | with_reducible refine Below.alloc ?_ ?_ _ | with_reducible refine Below.setCell ?_ ?_ _ | with_reducible refine Below.setRow ?_ ?_ _ | with_reducible refine below_step (by assumption) ?_ ?_ | (show (_ : Nat) ≤ _; first | omega | (simp <;> omega)))) (Nat.le_refl _))).mono ?_; rintro e w1 ⟨rfl, hb1⟩; have r1 := keep_rowA hb1; have f1 := keep_frA hb1; have s1 := hb1.size; (try simp only [World.size_alloc, World.size_setCell, setRow_size, World.size_drew, size_drewNm] at r1 f1 s1)))
        go_ret
        exact ⟨k, rfl, by rw [HN.out]; exact decide_eq_true (by omega), by omega, by omega, by repeat' (first | with_reducible exact Below.refl _ _ | with_reducible assumption | with_reducible refine Below.drew ?_ | with_reducible refine Below.drewN ?_ _ | with_reducible refine Below.alloc ?_ ?_ _ | with_reducible refine Below.setCell ?_ ?_ _ | with_reducible refine Below.setRow ?_ ?_ _ | with_reducible refine below_step (by assumption) ?_ ?_ | (show (_ : Nat) ≤ _; first | omega | (simp <;> omega)))⟩
    · have hke : k = G.length := by omega
      subst hke
      have HV := Lib.hid (fitTo_all HIN.out)
      go_wp2
      go_ret
      exact ⟨-1, rfl, by rw [HV.out]; rfl, by omega, by omega, by repeat' (first | with_reducible exact Below.refl _ _ | with_reducible assumption | with_reducible refine Below.drew ?_ | with_reducible refine Below.drewN ?_ _ | with_reducible refine Below.alloc ?_ ?_ _ | with_reducible refine Below.setCell ?_ ?_ _ | with_reducible refine Below.setRow ?_ ?_ _ | with_reducible refine below_step (by assumption) ?_ ?_ | (show (_ : Nat) ≤ _; first | omega | (simp <;> omega)))⟩
theorem badAny_any (q : Nat) (v : Value) (G : List (List (List UInt8))) (hG : G.length ≤ 1048577) (hG2 : ∀ r ∈ G, r.length ≤ 1048577) (w : World) (hq : rowOf w q = #[v]) (hqs : q < w.heap.size) (h : GridV w v G) :
    Calls Tryd.prog 35 #[v, .func (.func 36) #[] #[.pointer (some ⟨q, 0, none⟩)]] w fun e w' => e = .returned (.bool (!(G.all (fitR G)))) ∧ Below w.heap.size w w' := by
  have HX := Lib.hid (badFrom_any q v G hG hG2 w hq hqs h)
  generalize hb : (!(G.all (fitR G))) = b at *
  have HB := Lib.hid hb
  clear hb h
  go_enter Tryd.func35, Tryd.ntmps35
  go_wp2_with (go_at_call 45; refine HX.out.mono ?_; rintro e w1 ⟨k, rfl, hk, hk1, hk2, hb1⟩)
  go_ret
  exact ⟨by rw [← hk]; rfl, by repeat' (first | with_reducible exact Below.refl _ _ | with_reducible assumption | with_reducible refine Below.drew ?_ | with_reducible refine Below.drewN ?_ _ | with_reducible refine Below.alloc ?_ ?_ _ | with_reducible refine Below.setCell ?_ ?_ _ | with_reducible refine Below.setRow ?_ ?_ _ | with_reducible refine below_step (by assumption) ?_ ?_ | (show (_ : Nat) ≤ _; first | omega | (simp <;> omega)))⟩
theorem res_tct {P : Program} {fn : Func} {tmps : Array Value} {w : World} {u0 : Tmp} {x0 : Value} {p1 : Tmp} {t1 : TypeId} {a1 : Addr} {v1 : Value} {u2 : Tmp} {x2 : Value} (h : fn.results = #[.tmp u0, .cell p1 t1, .tmp u2]) (hx0 : tmps.getD u0 undef = x0) (hp1 : tmps.getD p1 undef = .pointer (some a1)) (hl1 : (loadVar t1 a1).run P w = .ok v1 w) (hx2 : tmps.getD u2 undef = x2) :
    (results fn tmps).run P w = .ok (.tuple #[x0, v1, x2]) w := by
  simp only [Array.getD_eq_getD_getElem?] at *
  simp [results, h, asAddr, Sem.run_bind, Result.andThen, hx0, hp1, hl1, hx2]
theorem rlB_len {G : List (List (List UInt8))} (h : 8 < G.length) : rlB G = false ∧ rlC G = fun _ => 0 := by
  have e : rlB G = false := by unfold rlB; rw [decide_eq_false (by omega)]; rfl
  exact ⟨e, by unfold rlC; rw [if_neg (by rw [e]; decide)]⟩
theorem rlB_no {G : List (List (List UInt8))} (h : G.all (fitR G) = false) : rlB G = false ∧ rlC G = fun _ => 0 := by
  have e : rlB G = false := by unfold rlB; rw [h, Bool.and_false]
  exact ⟨e, by unfold rlC; rw [if_neg (by rw [e]; decide)]⟩
theorem rlB_yes {G : List (List (List UInt8))} (h8 : G.length ≤ 8) (h : G.all (fitR G) = true) : rlB G = true ∧ ∀ r0, G[0]? = some r0 → r0.length ≤ 8 ∧ rlC G = fun j => if j = 0 then (r0.length : Int) else if j = 1 then (G.length : Int) else 0 := by
  have e : rlB G = true := by unfold rlB; rw [decide_eq_true h8, h]; rfl
  refine ⟨e, fun r0 hr => ?_⟩
  have hh : G.headD [] = r0 := by
    cases G with
    | nil => cases hr
    | cons a r => exact Option.some.inj hr
  rw [List.all_eq_true] at h
  have h2 := h r0 (List.mem_of_getElem? hr)
  unfold fitR at h2
  simp only [Bool.and_eq_true, decide_eq_true_eq] at h2
  exact ⟨h2.1, by unfold rlC; rw [if_pos e, hh]⟩
theorem owns_empty_at (w : World) (e : TypeId) (b : Nat) (hb : b = w.heap.size) : (w.alloc (.cells #[] e)).ownsRow b e 1 (.slice (some ⟨b, 0, none⟩) 0 0) 0 [] := by subst hb; exact owns_empty1 w e
/-- One more row behind the rows. -/
theorem gr_grown {w w2 : World} {row : Option Nat} {base : Nat} {D : Gw} (h : GrW w base D) (g : w.grownBy w2 row) (hr : ∀ p ∈ D, some p.1 ≠ row) : GrW w2 base D :=
  h.keep g.size (fun p hp => grown_row g (h p hp).2.1 (hr p hp))
theorem gr_first {w : World} {base : Nat} {e : TypeId} {g cap n : Nat} {D : Gw} (h : w.ownsRow base e 1 (.slice (some ⟨g, 0, none⟩) n cap) n (GrV D)) (hn : 0 < n) : ∃ d ∈ D, (rowOf w g)[0]? = some (.slice (some ⟨d.1, 0, none⟩) d.2.length d.2.length) := by
  obtain ⟨hg, hbg, hc⟩ := own_cells h
  have hl : (GrV D).length = n := by have := h.1; omega
  match D, hl with
  | [], hl => simp [GrV] at hl; omega
  | d :: D', _ => exact ⟨d, by simp, hc 0 _ rfl⟩
theorem fr_of_block {w w' : World} {b : Nat} (h : w'.heap[b]? = w.heap[b]?) : rowOf w' b = rowOf w b ∧ frOf w' b = frOf w b := by unfold rowOf frOf; rw [h]; exact ⟨rfl, rfl⟩
theorem gr_step {e : TypeId} {w W w2 : World} {N g cp k : Nat} {D : Gw} {ws : List (List UInt8)} (hown : w.ownsRow (N + 1 + 1) e 1 (.slice (some ⟨g, 0, none⟩) k cp) k (GrV D)) (hD : GrW w (N + 1 + 1) D) (hg0 : k = 0 → g = N + 1 + 1) (hsz : N + 1 + 1 + 1 + 1 + 1 ≤ w.heap.size)
    (h3 : rowOf w (N + 1 + 1 + 1) = #[.slice (some ⟨g, 0, none⟩) k cp]) (h4 : rowOf w (N + 1 + 1 + 1 + 1) = kc sk 266 (fun _ => 0))
    (hb : Below w.heap.size w W) (hWs : w.heap.size < W.heap.size) (hrow : rowOf W w.heap.size = (strV ws).toArray) (hws : ws ≠ []) (hgrow : W.grownBy w2 (some g)) :
    (∀ b, b ≤ N + 1 + 1 + 1 + 1 → b ≠ N + 1 + 1 → rowOf w2 b = rowOf w b ∧ frOf w2 b = frOf w b) ∧ GrW w2 (N + 1 + 1) (D ++ [(w.heap.size, ws)]) ∧ ∀ p ∈ D ++ [(w.heap.size, ws)], p.1 ≠ g := by
  obtain ⟨hgs, hgb, -⟩ := own_cells hown
  have hA : (∀ p ∈ D, p.1 ≠ g) ∧ N + 1 + 1 + 1 ≠ g ∧ N + 1 + 1 + 1 + 1 ≠ g := by
    rcases Nat.eq_zero_or_pos k with h0 | h0
    · have := hg0 h0
      have hD0 : D = [] := by
        have := hown.1
        unfold GrV at this
        rw [List.length_map] at this
        exact List.length_eq_zero_iff.1 (by omega)
      rw [hD0]
      exact ⟨fun p hp => (by cases hp), by omega, by omega⟩
    · obtain ⟨a1, a2, a3⟩ := gr_apart hown hD h0
      exact ⟨a1, a2 _ h3, a3 _ _ h4⟩
  have hbl : ∀ b, b < w.heap.size → b ≠ g → w2.heap[b]? = w.heap[b]? := fun b h1 h2 => (hgrow.block b (by have := hb.size; omega) (fun e => h2 (Option.some.inj e))).trans (hb.block b h1)
  refine ⟨fun b h1 h2 => fr_of_block (hbl b (by omega) (fun e => ?_)), ?_, fun p hp => ?_⟩
  · obtain ⟨-, a2, a3⟩ := hA
    subst e
    omega
  · refine GrW.snoc ?_ (by omega) (by have := hgrow.size; omega) hws ?_
    · exact hD.keep (by have := hb.size; have := hgrow.size; omega) (fun p hp => (fr_of_block (hbl p.1 (hD p hp).2.1 (hA.1 p hp))).1)
    · rw [(fr_of_block (hgrow.block w.heap.size hWs (fun e => by have := Option.some.inj e; omega))).1]; exact hrow
  · rcases List.mem_append.1 hp with hp | hp
    · exact hA.1 p hp
    · obtain rfl := List.mem_singleton.1 hp
      show w.heap.size ≠ g
      omega
theorem gr_store {e : TypeId} {w : World} {base g k cp g2 c2 n q : Nat} {D : Gw} (h : w.ownsRow base e 1 (.slice (some ⟨g2, 0, none⟩) n c2) n (GrV D)) (hD : GrW w base D) (hq : rowOf w q = #[.slice (some ⟨g, 0, none⟩) k cp]) (hne : ∀ p ∈ D, p.1 ≠ g) (hn : 0 < n) (u : Value) :
    (w.setCell ⟨q, 0, none⟩ u).ownsRow base e 1 (.slice (some ⟨g2, 0, none⟩) n c2) n (GrV D) ∧ GrW (w.setCell ⟨q, 0, none⟩ u) base D := by
  obtain ⟨d, hd, hd0⟩ := gr_first h hn
  have h1 : g2 ≠ q := fun e => by
    rw [e, hq] at hd0
    simp at hd0
    exact hne d hd hd0.1.symm
  constructor
  · refine ⟨h.1, ?_⟩
    rcases h.2 with hn | ⟨g', cap', cur, hv, hg, hgg, rest⟩
    · exact .inl hn
    · simp only [Value.slice.injEq, Option.some.injEq, Addr.mk.injEq] at hv
      obtain ⟨⟨rfl, -, -⟩, -, rfl⟩ := hv
      exact .inr ⟨g2, c2, cur, rfl, hg, (heap_setCell_other w ⟨q, 0, none⟩ g2 u h1).trans hgg, rest⟩
  · refine hD.keep (by simp) (fun p hp => (fr_of_block (heap_setCell_other w ⟨q, 0, none⟩ p.1 u (fun e => ?_))).1)
    obtain ⟨_, _, h3, h4⟩ := hD p hp
    have e2 : p.1 = q := e
    rw [e2, hq] at h4
    match hp2 : p.2, h3 with
    | [], h3 => exact h3 rfl
    | x :: r, _ =>
      rw [hp2] at h4
      have := congrArg (fun a => a[0]?) h4
      simp [strV] at this
set_option maxHeartbeats 16000000 in
theorem readLines_any (t : List UInt8) (hl : t.length ≤ 1048576) (w : World) (h : RdW w) :
    Calls Tryd.prog 15 #[.string (tx t)] w fun e w' => ∃ a n cap, e = .returned (.tuple #[.slice a n cap, .agg (kc sk 266 (rlC (iG t))), .bool (rlB (iG t))]) ∧ (rlB (iG t) = true → GridV w' (.slice a n cap) (iG t)) ∧ Below w.heap.size w w' := by
  obtain ⟨i0, z0, hi0, hz0, hs0, hb0, hc0⟩ := strs_info
  have HI := Lib.hid (And.intro hi0 (And.intro hz0 (And.intro hs0 (And.intro hb0 hc0))))
  clear hi0 hz0 hs0 hb0 hc0
  have HR := Lib.hid h
  have HT := Lib.hid (fun w => trim_is t ▸ Tryd.strings_TrimSuffix (tx t) (tx [10]) w (by rw [tx_size]; omega))
  have htl := trim_len t
  have hLl := sp_len 10 (trim t)
  have hne := sp_ne 10 (trim t)
  have HS := Lib.hid (fun w h => split_any 10 (trim t) (by omega) w h)
  have HM := Lib.hid (fun x (h : x ∈ sp 10 (trim t)) => Nat.le_trans (seg_le h) htl)
  obtain ⟨G, hG⟩ : ∃ G, iG t = G := ⟨_, rfl⟩
  have hGG : (sp 10 (trim t)).map (sp 32) = G := hG
  rw [hG]
  generalize sp 10 (trim t) = L at *
  generalize trim t = s at *
  have HG := Lib.hid hGG
  have hpos : 0 < L.length := List.length_pos_iff.2 hne
  have hn1 : L.length ≤ 1048577 := by omega
  clear hG hGG hLl hne h htl
  go_enter Tryd.func15, Tryd.ntmps15
  go_wp2_with (first | (go_at_call 34; (with_reducible refine (HT.out _).mono ?_); rintro e wt ⟨rfl, rfl⟩) | (go_at_call 33; (with_reducible refine (HS.out _ (HR.out.below (by repeat' (first | with_reducible exact Below.refl _ _ | with_reducible assumption | with_reducible refine Below.drew ?_ | with_reducible refine Below.drewN ?_ _ | with_reducible refine Below.alloc ?_ ?_ _ | with_reducible refine Below.setCell ?_ ?_ _ | with_reducible refine Below.setRow ?_ ?_ _ | with_reducible refine below_step (by assumption) ?_ ?_ | (show (_ : Nat) ≤ _; first | omega | (simp <;> omega)))))).mono ?_); rintro e ws ⟨rfl, rfl⟩))
  obtain ⟨R, hR⟩ : ∃ R, (strV L).toArray = R := ⟨_, rfl⟩
  have HRV := Lib.hid (show ∀ (j : Nat) x, L[j]? = some x → R[j]? = some (Value.string (tx x)) from fun j x hx => by rw [← hR, List.getElem?_toArray]; unfold strV; rw [List.getElem?_map, hx]; rfl)
  rw [hR]
  clear hR
  go_loopw [17] (fun i wr => ∃ (k g cp : Nat) (D : Gw), k ≤ L.length ∧ i = .int .i64 k ∧ Below w.heap.size w wr ∧ w.heap.size + 1 + 1 + 1 + 1 + 1 ≤ wr.heap.size ∧ rowOf wr w.heap.size = kc sk 266 (fun _ => 0) ∧ rowOf wr (w.heap.size + 1) = R ∧ rowOf wr (w.heap.size + 1 + 1 + 1) = #[.slice (some ⟨g, 0, none⟩) k cp] ∧ rowOf wr (w.heap.size + 1 + 1 + 1 + 1) = kc sk 266 (fun _ => 0) ∧ frOf wr w.heap.size = (0, 0) ∧ frOf wr (w.heap.size + 1 + 1 + 1) = (0, 0) ∧ frOf wr (w.heap.size + 1 + 1 + 1 + 1) = (0, 0) ∧ wr.ownsRow (w.heap.size + 1 + 1) 41 1 (.slice (some ⟨g, 0, none⟩) k cp) k (GrV D) ∧ GrW wr (w.heap.size + 1 + 1) D ∧ D.map Prod.snd = (L.take k).map (sp 32) ∧ (k = 0 → g = w.heap.size + 1 + 1)) (fun i wr => L.length + 1 - (intOf i).toNat)
  case atStart => exact ⟨0, w.heap.size + 1 + 1, 0, [], by omega, rfl, by repeat' (first | with_reducible exact Below.refl _ _ | with_reducible assumption | with_reducible refine Below.drew ?_ | with_reducible refine Below.drewN ?_ _ | with_reducible refine Below.alloc ?_ ?_ _ | with_reducible refine Below.setCell ?_ ?_ _ | with_reducible refine Below.setRow ?_ ?_ _ | with_reducible refine below_step (by assumption) ?_ ?_ | (show (_ : Nat) ≤ _; first | omega | (simp <;> omega))), by simp, by (go_simp <;> (intros; omega)), by (go_simp <;> (intros; omega)), by (go_simp <;> (intros; omega)), by (go_simp <;> (intros; omega)), by (go_simp <;> (intros; omega)), by (go_simp <;> (intros; omega)), by (go_simp <;> (intros; omega)), owns_below (owns_empty_at ((w.alloc (.cells (kc sk 266 fun _ => 0) 35)).alloc (.cells R 9)) _ _ (by simp)) (by repeat' (first | with_reducible exact Below.refl _ _ | with_reducible assumption | with_reducible refine Below.drew ?_ | with_reducible refine Below.drewN ?_ _ | with_reducible refine Below.alloc ?_ ?_ _ | with_reducible refine Below.setCell ?_ ?_ _ | with_reducible refine Below.setRow ?_ ?_ _ | with_reducible refine below_step (by assumption) ?_ ?_ | (show (_ : Nat) ≤ _; first | omega | (simp <;> omega)))), (by intro p hp; cases hp), rfl, fun _ => rfl⟩
  case round =>
    obtain ⟨k, g, cp, D, hk, rfl, hb, hsz, hr0, hr1, hr3, hr4, hf0, hf3, hf4, hown, hD, hDL, hg0⟩ := hrel
    have hsz0 := hb.size
    have HO := Lib.hid hown
    have HD := Lib.hid hD
    have HDL := Lib.hid hDL
    have HG0 := Lib.hid hg0
    clear hown hD hDL hg0
    by_cases hlt : k < L.length
    · obtain ⟨l, hl2⟩ : ∃ l, L[k]? = some l := ⟨_, List.getElem?_eq_getElem hlt⟩
      have hrl : R[k]? = some (.string (tx l)) := HRV.out k l hl2
      have hll : l.length ≤ 1048576 := Nat.le_trans (HM.out l (List.mem_of_getElem? hl2)) hl
      have HSP := Lib.hid (fun w h => split_any 32 l hll w h)
      have HL2 := Lib.hid hl2
      have hlt2 : (k : Int) < (L.length : Int) := by omega
      have hw1 : IntKind.i64.wrap ((k : Int) + 1) = ((k + 1 : Nat) : Int) := by rw [IntWalk.i64_in _ (by omega)]; rfl
      clear hl2
      go_wp2
      (refine wp_region_held (S := fun w' => (True)) (by kernel_rfl) ?_); (simp only [World.drew_eq]); (refine wpAnyH_take (i := 1) rfl (by kernel_rfl) (by kernel_rfl) (by kernel_rfl) (fun _ _ _ h => h) (yieldsIf_move rfl rfl) (by go_simp) ?_); (try simp only [Act.put, Act.eval, List.getElem_toArray, List.getElem_cons_zero, List.getElem_cons_succ, List.setIfInBounds_toArray, List.set_cons_zero, List.set_cons_succ, Array.getD_eq_getD_getElem?, List.getElem?_toArray, List.getElem?_cons_zero, List.getElem?_cons_succ, Option.getD_some])
      refine wpAnyH_two (i := 0) (j := 2) (by kernel_rfl) rfl rfl rfl rfl ?h1 ?h2
      case' h1 =>
        refine oper_hid (fun RR hRR => ?_)
        go_simp
        refine hRR _ _ ⟨trivial, ?_⟩
        clear hRR RR
        try simp only [Act.put, Act.eval, List.getElem_toArray, List.getElem_cons_zero, List.getElem_cons_succ, List.setIfInBounds_toArray, List.set_cons_zero, List.set_cons_succ, Array.getD_eq_getD_getElem?, List.getElem?_toArray, List.getElem?_cons_zero, List.getElem?_cons_succ, Option.getD_some]
        refine wpAnyH_one (i := 2) (by kernel_rfl) rfl rfl ?_
        refine oper_hid (fun RR hRR => ?_)
        go_simp
        go_at_call 33
        with_reducible refine (HSP.out _ (HR.out.below (by repeat' (first | with_reducible exact Below.refl _ _ | with_reducible assumption | with_reducible refine Below.drew ?_ | with_reducible refine Below.drewN ?_ _ | with_reducible refine Below.alloc ?_ ?_ _ | with_reducible refine Below.setCell ?_ ?_ _ | with_reducible refine Below.setRow ?_ ?_ _ | with_reducible refine below_step (by assumption) ?_ ?_ | (show (_ : Nat) ≤ _; first | omega | (simp <;> omega)))))).mono ?_
        rintro e ws ⟨rfl, rfl⟩
        refine hRR _ _ ⟨trivial, ?_⟩
        clear hRR RR
        try simp only [Act.put, Act.eval, List.getElem_toArray, List.getElem_cons_zero, List.getElem_cons_succ, List.setIfInBounds_toArray, List.set_cons_zero, List.set_cons_succ, Array.getD_eq_getD_getElem?, List.getElem?_toArray, List.getElem?_cons_zero, List.getElem?_cons_succ, Option.getD_some]
        refine wpAnyH_one (i := 3) (by kernel_rfl) rfl rfl ?_
        refine oper_hid (fun RR hRR => ?_)
        go_simp
        refine hRR _ _ ⟨trivial, ?_⟩
        clear hRR RR
        try simp only [Act.put, Act.eval, List.getElem_toArray, List.getElem_cons_zero, List.getElem_cons_succ, List.setIfInBounds_toArray, List.set_cons_zero, List.set_cons_succ, Array.getD_eq_getD_getElem?, List.getElem?_toArray, List.getElem?_cons_zero, List.getElem?_cons_succ, Option.getD_some]
      case' h2 =>
        refine oper_hid (fun RR hRR => ?_)
        go_simp
        go_at_call 33
        with_reducible refine (HSP.out _ (HR.out.below (by repeat' (first | with_reducible exact Below.refl _ _ | with_reducible assumption | with_reducible refine Below.drew ?_ | with_reducible refine Below.drewN ?_ _ | with_reducible refine Below.alloc ?_ ?_ _ | with_reducible refine Below.setCell ?_ ?_ _ | with_reducible refine Below.setRow ?_ ?_ _ | with_reducible refine below_step (by assumption) ?_ ?_ | (show (_ : Nat) ≤ _; first | omega | (simp <;> omega)))))).mono ?_
        rintro e ws ⟨rfl, rfl⟩
        refine hRR _ _ ⟨trivial, ?_⟩
        clear hRR RR
        try simp only [Act.put, Act.eval, List.getElem_toArray, List.getElem_cons_zero, List.getElem_cons_succ, List.setIfInBounds_toArray, List.set_cons_zero, List.set_cons_succ, Array.getD_eq_getD_getElem?, List.getElem?_toArray, List.getElem?_cons_zero, List.getElem?_cons_succ, Option.getD_some]
        refine wpAnyH_two (i := 0) (j := 3) (by kernel_rfl) rfl rfl rfl rfl ?h3 ?h4
      case' h3 =>
        refine oper_hid (fun RR hRR => ?_)
        go_simp
        refine hRR _ _ ⟨trivial, ?_⟩
        clear hRR RR
        try simp only [Act.put, Act.eval, List.getElem_toArray, List.getElem_cons_zero, List.getElem_cons_succ, List.setIfInBounds_toArray, List.set_cons_zero, List.set_cons_succ, Array.getD_eq_getD_getElem?, List.getElem?_toArray, List.getElem?_cons_zero, List.getElem?_cons_succ, Option.getD_some]
        refine wpAnyH_one (i := 3) (by kernel_rfl) rfl rfl ?_
        refine oper_hid (fun RR hRR => ?_)
        go_simp
        refine hRR _ _ ⟨trivial, ?_⟩
        clear hRR RR
        try simp only [Act.put, Act.eval, List.getElem_toArray, List.getElem_cons_zero, List.getElem_cons_succ, List.setIfInBounds_toArray, List.set_cons_zero, List.set_cons_succ, Array.getD_eq_getD_getElem?, List.getElem?_toArray, List.getElem?_cons_zero, List.getElem?_cons_succ, Option.getD_some]
      case' h4 =>
        refine oper_hid (fun RR hRR => ?_)
        go_simp
        refine hRR _ _ ⟨trivial, ?_⟩
        clear hRR RR
        try simp only [Act.put, Act.eval, List.getElem_toArray, List.getElem_cons_zero, List.getElem_cons_succ, List.setIfInBounds_toArray, List.set_cons_zero, List.set_cons_succ, Array.getD_eq_getD_getElem?, List.getElem?_toArray, List.getElem?_cons_zero, List.getElem?_cons_succ, Option.getD_some]
        refine wpAnyH_one (i := 0) (by kernel_rfl) rfl rfl ?_
        refine oper_hid (fun RR hRR => ?_)
        go_simp
        refine hRR _ _ ⟨trivial, ?_⟩
        clear hRR RR
        try simp only [Act.put, Act.eval, List.getElem_toArray, List.getElem_cons_zero, List.getElem_cons_succ, List.setIfInBounds_toArray, List.set_cons_zero, List.set_cons_succ, Array.getD_eq_getD_getElem?, List.getElem?_toArray, List.getElem?_cons_zero, List.getElem?_cons_succ, Option.getD_some]
      all_goals
        refine wpAnyH_one (i := 4) (by kernel_rfl) rfl rfl ?_
        refine wp_append_own _ _ 49 rfl (w.heap.size + 1 + 1) 41 i0 z0 1 24 Tryd.underlying49 HI.out.1 HI.out.2.1 HI.out.2.2.1 HI.out.2.2.2.1 HI.out.2.2.2.2 (by decide) _ k _ rfl (owns_below HO.out (by repeat' (first | with_reducible exact Below.refl _ _ | with_reducible assumption | with_reducible refine Below.drew ?_ | with_reducible refine Below.drewN ?_ _ | with_reducible refine Below.alloc ?_ ?_ _ | with_reducible refine Below.setCell ?_ ?_ _ | with_reducible refine Below.setRow ?_ ?_ _ | with_reducible refine below_step (by assumption) ?_ ?_ | (show (_ : Nat) ≤ _; first | omega | (simp <;> omega))))) ⟨wr.heap.size + 1, 0, none⟩ 1 1 [.slice (some ⟨wr.heap.size, 0, none⟩) (sp 32 l).length (sp 32 l).length] rfl rfl (by intro j u hj; match j, hj with | 0, hj => (simp at hj; subst hj; first | (simp [Addr.add]; done) | (rw [cell_row]; simp [Addr.add]; done) | (rw [cell_row]; go_simp))) (by intro u hu; simp at hu; subst hu; rfl) (by unfold maxLen; omega) (by omega) (by first | omega | (simp <;> omega)) ?_
        intro v2 w2 hown2 hgrow2
        obtain ⟨g2, c2, rfl⟩ := owns_slice hown2 (by omega)
        have hst := gr_step (ws := sp 32 l) HO.out HD.out HG0.out hsz hr3 hr4 (by repeat' (first | with_reducible exact Below.refl _ _ | with_reducible assumption | with_reducible refine Below.drew ?_ | with_reducible refine Below.drewN ?_ _ | with_reducible refine Below.alloc ?_ ?_ _ | with_reducible refine Below.setCell ?_ ?_ _ | with_reducible refine Below.setRow ?_ ?_ _ | with_reducible refine below_step (by assumption) ?_ ?_ | (show (_ : Nat) ≤ _; first | omega | (simp <;> omega)))) (by simp <;> omega) (by (go_simp <;> (intros; omega))) (sp_ne 32 l) hgrow2
        have HB2 := Lib.hid (below_grown (B := w.heap.size) (a := w) (by repeat' (first | with_reducible exact Below.refl _ _ | with_reducible assumption | with_reducible refine Below.drew ?_ | with_reducible refine Below.drewN ?_ _ | with_reducible refine Below.alloc ?_ ?_ _ | with_reducible refine Below.setCell ?_ ?_ _ | with_reducible refine Below.setRow ?_ ?_ _ | with_reducible refine below_step (by assumption) ?_ ?_ | (show (_ : Nat) ≤ _; first | omega | (simp <;> omega)))) hgrow2 (fun q hq => by obtain rfl := Option.some.inj hq; have := own_cells HO.out; show w.heap.size ≤ g; omega) (by first | omega | (simp <;> omega)))
        have hs2 := hgrow2.size
        obtain ⟨hst1, hD2, hne2⟩ := hst
        rw [← grV_snoc] at hown2
        have q0 := hst1 w.heap.size (by omega) (by omega)
        have q1 := hst1 (w.heap.size + 1) (by omega) (by omega)
        have q3 := hst1 (w.heap.size + 1 + 1 + 1) (by omega) (by omega)
        have q4 := hst1 (w.heap.size + 1 + 1 + 1 + 1) (by omega) (by omega)
        rw [hr0, hf0] at q0
        rw [hr1] at q1
        rw [hr3, hf3] at q3
        rw [hr4, hf4] at q4
        obtain ⟨q0, p0⟩ := q0
        obtain ⟨q1, p1⟩ := q1
        obtain ⟨q3, p3⟩ := q3
        obtain ⟨q4, p4⟩ := q4
        have HST := Lib.hid (gr_store hown2 hD2 q3 hne2 (by omega) (.slice (some ⟨g2, 0, none⟩) (k + 1) c2))
        have hs3 : w.heap.size + 1 + 1 + 1 + 1 + 1 ≤ w2.heap.size := by simp at hs2; omega
        have HDN := Lib.hid (show (D ++ [(wr.heap.size, sp 32 l)]).map Prod.snd = (L.take (k + 1)).map (sp 32) by rw [List.map_append, HDL.out, List.take_add_one, HL2.out, List.map_append]; rfl)
        clear hst1 hown2 hD2 hne2 hgrow2 hs2 p1
        refine ⟨trivial, ?_⟩
        try simp only [Act.put, Act.eval, List.getElem_toArray, List.getElem_cons_zero, List.getElem_cons_succ, List.setIfInBounds_toArray, List.set_cons_zero, List.set_cons_succ, Array.getD_eq_getD_getElem?, List.getElem?_toArray, List.getElem?_cons_zero, List.getElem?_cons_succ, Option.getD_some]
        refine wpAnyH_one (i := 5) (by kernel_rfl) rfl rfl ?_
        refine oper_hid (fun RR hRR => ?_)
        go_simp
        refine hRR _ _ ⟨trivial, ?_⟩
        clear hRR RR
        try simp only [Act.put, Act.eval, List.getElem_toArray, List.getElem_cons_zero, List.getElem_cons_succ, List.setIfInBounds_toArray, List.set_cons_zero, List.set_cons_succ, Array.getD_eq_getD_getElem?, List.getElem?_toArray, List.getElem?_cons_zero, List.getElem?_cons_succ, Option.getD_some]
        refine wpAnyH_done (by kernel_rfl) ?_ _
        go_wp2
        go_roundw
        case rel => exact ⟨k + 1, g2, c2, D ++ [(wr.heap.size, sp 32 l)], by omega, by go_num, Below.setCell HB2.out (by show w.heap.size ≤ w.heap.size + 1 + 1 + 1; omega) _, by simp; omega, by (go_simp <;> (intros; omega)), by (go_simp <;> (intros; omega)), by (go_simp <;> (intros; omega)), by (go_simp <;> (intros; omega)), by (go_simp <;> (intros; omega)), by (go_simp <;> (intros; omega)), by (go_simp <;> (intros; omega)), HST.out.1, HST.out.2, HDN.out, fun h => by omega⟩
        case measure => simp [intOf]; omega
    · have hke : k = L.length := by omega
      subst hke
      have hGl : G.length = L.length := by rw [← HG.out, List.length_map]
      have HGV := Lib.hid (GridV.of HO.out HD.out (G := G) (by rw [HDL.out, List.take_length]; exact HG.out))
      obtain ⟨r0, hr00⟩ : ∃ r0, G[0]? = some r0 := ⟨_, List.getElem?_eq_getElem (by omega)⟩
      have hG2 : ∀ r ∈ G, r.length ≤ 1048577 := fun r hr => by
        rw [← HG.out] at hr
        obtain ⟨l, hm, rfl⟩ := List.mem_map.1 hr
        have := sp_len 32 l
        have := HM.out l hm
        omega
      have HBA := Lib.hid (fun q v w hq hqs h => badAny_any q v G (by omega) hG2 w hq hqs h)
      have HSO := Lib.hid HO.out
      obtain ⟨hgs, hgb, -⟩ := own_cells HO.out
      clear HO HD HDL HG0 hG2
      by_cases h8 : 8 < L.length
      · have HF := Lib.hid (rlB_len (G := G) (by omega))
        have hd : decide ((8 : Int) < (L.length : Int)) = true := decide_eq_true (by omega)
        have hd2 : (8 : Int) < (L.length : Int) := by omega
        go_wp2
        refine bodyPost_ret (v := .tuple #[.slice none 0 0, .agg (kc sk 266 fun _ => 0), .bool false]) (res_tct rfl rfl rfl (by (go_simp <;> (intros; omega))) rfl) rfl ⟨none, 0, 0, by rw [HF.out.1, HF.out.2], fun h => (by rw [HF.out.1] at h; cases h), by repeat' (first | with_reducible exact Below.refl _ _ | with_reducible assumption | with_reducible refine Below.drew ?_ | with_reducible refine Below.drewN ?_ _ | with_reducible refine Below.alloc ?_ ?_ _ | with_reducible refine Below.setCell ?_ ?_ _ | with_reducible refine Below.setRow ?_ ?_ _ | with_reducible refine below_step (by assumption) ?_ ?_ | (show (_ : Nat) ≤ _; first | omega | (simp <;> omega)))⟩
      · have hd : decide ((8 : Int) < (L.length : Int)) = false := decide_eq_false (by omega)
        have hd2 : ¬ (8 : Int) < (L.length : Int) := by omega
        rcases Bool.eq_false_or_eq_true (G.all (fitR G)) with hs | hs
        case inr =>
          rw [hs] at HBA
          have HF := Lib.hid (rlB_no hs)
          clear hs
          go_wp2_with ((go_at_call 35; refine (HBA.out _ _ _ (by (go_simp <;> (intros; omega))) (by first | omega | (simp <;> omega)) (HGV.out.below (by repeat' (first | with_reducible exact Below.refl _ _ | with_reducible assumption | with_reducible refine Below.drew ?_ | with_reducible refine Below.drewN ?_ _ | with_reducible refine Below.alloc ?_ ?_ _ | with_reducible refine Below.setCell ?_ ?_ _ | with_reducible refine Below.setRow ?_ ?_ _ | with_reducible refine below_step (by assumption) ?_ ?_ | (show (_ : Nat) ≤ _; first | omega | (simp <;> omega)))) (Nat.le_refl _))).mono ?_; rintro e w1 ⟨rfl, hb1⟩; have r1 := keep_rowA hb1; have f1 := keep_frA hb1; have s1 := hb1.size; (try simp only [World.size_alloc, World.size_setCell, setRow_size, World.size_drew, size_drewNm] at r1 f1 s1)))
          refine bodyPost_ret (v := .tuple #[.slice none 0 0, .agg (kc sk 266 fun _ => 0), .bool false]) (res_tct rfl rfl rfl (by (go_simp <;> (intros; omega))) rfl) rfl ⟨none, 0, 0, by rw [HF.out.1, HF.out.2], fun h => (by rw [HF.out.1] at h; cases h), by repeat' (first | with_reducible exact Below.refl _ _ | with_reducible assumption | with_reducible refine Below.drew ?_ | with_reducible refine Below.drewN ?_ _ | with_reducible refine Below.alloc ?_ ?_ _ | with_reducible refine Below.setCell ?_ ?_ _ | with_reducible refine Below.setRow ?_ ?_ _ | with_reducible refine below_step (by assumption) ?_ ?_ | (show (_ : Nat) ≤ _; first | omega | (simp <;> omega)))⟩
        rw [hs] at HBA
        obtain ⟨y1, y2⟩ := rlB_yes (G := G) (by omega) hs
        obtain ⟨y3, y4⟩ := y2 r0 hr00
        have HF := Lib.hid (And.intro y1 y4)
        clear hs y1 y2 y4
        obtain ⟨gq, cq, hgq, -, hgr⟩ := HGV.out
        obtain ⟨b0, c0, hb0, -, -⟩ := hgr 0 r0 hr00
        simp only [Value.slice.injEq, Option.some.injEq, Addr.mk.injEq] at hgq
        obtain ⟨⟨rfl, -, -⟩, -, rfl⟩ := hgq
        clear hgr
        have hwn : IntKind.i8.wrap (r0.length : Int) = (r0.length : Int) := by simp only [IntKind.wrap, IntKind.bits, IntKind.signed]; simp; omega
        have hwL : IntKind.i8.wrap (L.length : Int) = (L.length : Int) := by simp only [IntKind.wrap, IntKind.bits, IntKind.signed]; simp; omega
        generalize r0.length = n0 at *
        go_wp2_with ((go_at_call 35; refine (HBA.out _ _ _ (by (go_simp <;> (intros; omega))) (by first | omega | (simp <;> omega)) (HGV.out.below (by repeat' (first | with_reducible exact Below.refl _ _ | with_reducible assumption | with_reducible refine Below.drew ?_ | with_reducible refine Below.drewN ?_ _ | with_reducible refine Below.alloc ?_ ?_ _ | with_reducible refine Below.setCell ?_ ?_ _ | with_reducible refine Below.setRow ?_ ?_ _ | with_reducible refine below_step (by assumption) ?_ ?_ | (show (_ : Nat) ≤ _; first | omega | (simp <;> omega)))) (Nat.le_refl _))).mono ?_; rintro e w1 ⟨rfl, hb1⟩; have r1 := keep_rowA hb1; have f1 := keep_frA hb1; have s1 := hb1.size; (try simp only [World.size_alloc, World.size_setCell, setRow_size, World.size_drew, size_drewNm] at r1 f1 s1)))
        have HGN := Lib.hid (show ∀ r ∈ G, r ≠ [] from fun r hr => by
          rw [← HG.out] at hr
          obtain ⟨l, -, rfl⟩ := List.mem_map.1 hr
          exact sp_ne 32 l)
        have HC2 := Lib.hid (show rlC G = upI (upI (fun _ => 0) 0 (n0 : Int)) 1 (L.length : Int) by
          rw [HF.out.2, hGl]
          funext j
          unfold upI
          by_cases j0 : j = 0
          · subst j0; simp
          · by_cases j1 : j = 1
            · subst j1; simp
            · simp [j0, j1])
        obtain ⟨Rg, hRg⟩ : ∃ Rg, rowOf wr g = Rg := ⟨_, rfl⟩
        rw [hRg] at hb0
        have HC := Lib.hid (HGV.out.below (w' := w1) hb1 (Nat.le_refl _))
        go_region
        go_wp2
        go_region
        all_goals
          go_wp2
          refine bodyPost_ret (v := .tuple #[.slice (some ⟨g, 0, none⟩) L.length cp, .agg (kc sk 266 (rlC G)), .bool true]) (res_tct rfl rfl rfl (by rw [HC2.out]; (go_simp <;> (intros; omega))) rfl) rfl ⟨_, _, _, by rw [HF.out.1], fun _ => HC.out.other HGN.out (by simp) (fun b hb hni => ?_), by repeat' (first | with_reducible exact Below.refl _ _ | with_reducible assumption | with_reducible refine Below.drew ?_ | with_reducible refine Below.drewN ?_ _ | with_reducible refine Below.alloc ?_ ?_ _ | with_reducible refine Below.setCell ?_ ?_ _ | with_reducible refine Below.setRow ?_ ?_ _ | with_reducible refine below_step (by assumption) ?_ ?_ | (show (_ : Nat) ≤ _; first | omega | (simp <;> omega)))⟩
          have b1 : b ≠ w.heap.size := fun e => hni (.i8) 0 (by rw [e]; (go_simp <;> (intros; omega)))
          have b2 : b ≠ w.heap.size + 1 + 1 + 1 + 1 := fun e => hni (.i8) 0 (by rw [e]; (go_simp <;> (intros; omega)))
          (go_simp <;> (intros; omega))
end Go.Proofs.YtkdfkhjoijfcdaaDoor
