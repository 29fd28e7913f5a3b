/- Several texts in one: Made MadeP. -/
import Derived.Test.YtejnejplofddnaaGreatDoorGqN
import Derived.Test.YtejnejplofddnaaGreatDoorGqV
import Derived.Test.YtejnejplofddnaaGreatDoorGqC
import Derived.Laws.AppendOwn
import Derived.Lib.AppendZeros
import Derived.Deep.RegionHeld3
/- Marks that are drawn: free places, and some of them one behind the other. No program. -/
namespace Go.Proofs.YtejnejplofddnaaGreatDoor
open Go.RowKit
set_option linter.unusedVariables false
set_option linter.unusedSimpArgs false
set_option maxRecDepth 100000
/-- Places by their numbers. -/
def spL (W : Nat) (L : List Nat) : List Value := L.flatMap fun k => [.int .i8 ((k % W : Nat) : Int), .int .i8 ((k / W : Nat) : Int)]
theorem spL_snoc (W : Nat) (L : List Nat) (k : Nat) : spL W (L ++ [k]) = spL W L ++ [.int .i8 ((k % W : Nat) : Int), .int .i8 ((k / W : Nat) : Int)] := by unfold spL; rw [List.flatMap_append]; simp
theorem spL_at {W : Nat} {L : List Nat} : ∀ {j k : Nat}, L[j]? = some k → (spL W L)[j * 2]? = some (.int .i8 ((k % W : Nat) : Int)) ∧ (spL W L)[j * 2 + 1]? = some (.int .i8 ((k / W : Nat) : Int)) := by
  induction L with
  | nil => intro j k h; simp at h
  | cons a r ih =>
    intro j k h
    unfold spL
    rw [List.flatMap_cons]
    match j, h with
    | 0, h => simp at h; subst h; exact ⟨rfl, rfl⟩
    | j + 1, h =>
      obtain ⟨h1, h2⟩ := ih (j := j) (k := k) (by simpa using h)
      unfold spL at h1 h2
      rw [show (j + 1) * 2 = j * 2 + 2 by omega]
      exact ⟨by simpa using h1, by simpa using h2⟩
/-- The places that are not waxed. -/
def frL (c : Nat → Int) (W n : Nat) : List Nat := (List.range n).filter fun k => !(waxS c (k % W) (k / W))
theorem frL_yes {c : Nat → Int} {W n : Nat} (h : waxS c (n % W) (n / W) = false) : frL c W (n + 1) = frL c W n ++ [n] := by
  unfold frL
  rw [List.range_succ, List.filter_append]
  simp [h]
theorem frL_no {c : Nat → Int} {W n : Nat} (h : waxS c (n % W) (n / W) = true) : frL c W (n + 1) = frL c W n := by
  unfold frL
  rw [List.range_succ, List.filter_append]
  simp [h]
theorem frL_in {c : Nat → Int} {W n k : Nat} (h : k ∈ frL c W n) : k < n ∧ waxS c (k % W) (k / W) = false := by
  unfold frL at h
  rw [List.mem_filter] at h
  exact ⟨List.mem_range.1 h.1, by simpa using h.2⟩
theorem frL_nodup (c : Nat → Int) (W n : Nat) : (frL c W n).Nodup := List.Pairwise.filter _ List.nodup_range
theorem frL_len (c : Nat → Int) (W n : Nat) : (frL c W n).length ≤ n := by
  unfold frL
  exact Nat.le_trans (List.length_filter_le _ _) (by rw [List.length_range]; exact Nat.le_refl _)
/-- Some of a list, one behind the other, round and round. -/
def rotL (L : List Nat) (a j : Nat) : List Nat := (List.range j).map fun i => L.getD ((a + i) % L.length) 0
theorem rotL_snoc (L : List Nat) (a j : Nat) : rotL L a (j + 1) = rotL L a j ++ [L.getD ((a + j) % L.length) 0] := by unfold rotL; rw [List.range_succ, List.map_append]; rfl
theorem rotL_len (L : List Nat) (a j : Nat) : (rotL L a j).length = j := by unfold rotL; simp
theorem rotL_in {L : List Nat} {a j k : Nat} (h0 : 0 < L.length) (h : k ∈ rotL L a j) : k ∈ L := by
  unfold rotL at h
  obtain ⟨i, -, rfl⟩ := List.mem_map.1 h
  have hl : (a + i) % L.length < L.length := Nat.mod_lt _ h0
  rw [List.getD_eq_getElem?_getD, List.getElem?_eq_getElem hl]
  exact List.getElem_mem hl
theorem rotL_nodup {L : List Nat} {a j : Nat} (hj : j ≤ L.length) (hn : L.Nodup) : (rotL L a j).Nodup := by
  unfold List.Nodup
  rw [List.pairwise_iff_getElem]
  intro x y hx hy hxy e
  rw [rotL_len] at hx hy
  have h0 : 0 < L.length := by omega
  unfold rotL at e
  have hl1 : (a + x) % L.length < L.length := Nat.mod_lt _ h0
  have hl2 : (a + y) % L.length < L.length := Nat.mod_lt _ h0
  simp only [List.getElem_map, List.getElem_range, List.getD_eq_getElem?_getD] at e
  rw [List.getElem?_eq_getElem hl1, List.getElem?_eq_getElem hl2] at e
  simp only [Option.getD_some] at e
  have he : (a + x) % L.length = (a + y) % L.length := by
    apply Decidable.byContradiction
    intro hne
    rcases Nat.lt_or_gt_of_ne hne with h | h
    · exact (List.pairwise_iff_getElem.1 hn) _ _ hl1 hl2 h e
    · exact (List.pairwise_iff_getElem.1 hn) _ _ hl2 hl1 h e.symm
  have h2 := Nat.sub_mod_eq_zero_of_mod_eq he.symm
  rw [show a + y - (a + x) = y - x by omega, Nat.mod_eq_of_lt (by omega)] at h2
  omega
/-- A mark's cells as numbers. -/
def fM (W : Nat) (M : List Nat) (t : Nat) : Int := if t % 2 = 0 then ((M.getD (t / 2) 0 % W : Nat) : Int) else ((M.getD (t / 2) 0 / W : Nat) : Int)
theorem fM_even (W : Nat) (M : List Nat) (i : Nat) : fM W M (i * 2) = ((M.getD i 0 % W : Nat) : Int) ∧ fM W M (i * 2 + 1) = ((M.getD i 0 / W : Nat) : Int) := by
  unfold fM
  rw [if_pos (by omega), if_neg (by omega), show i * 2 / 2 = i by omega, show (i * 2 + 1) / 2 = i by omega]
  exact ⟨rfl, rfl⟩
theorem spL_fM {W : Nat} {M : List Nat} {t : Nat} (h : t < M.length * 2) : (spL W M)[t]? = some (.int .i8 (fM W M t)) := by
  have hl : t / 2 < M.length := by omega
  obtain ⟨h1, h2⟩ := spL_at (W := W) (List.getElem?_eq_getElem hl)
  have hg : M.getD (t / 2) 0 = M[t / 2] := by rw [List.getD_eq_getElem?_getD, List.getElem?_eq_getElem hl]; rfl
  unfold fM
  rw [hg]
  split
  · rename_i h0
    rw [show t / 2 * 2 = t by omega] at h1
    exact h1
  · rename_i h0
    rw [show t / 2 * 2 + 1 = t by omega] at h2
    exact h2
def mkM (W : Nat) (x : Int × Value × List Nat) : Mk := ⟨x.1, x.2.1, x.2.2.length, fM W x.2.2⟩
/-- A mark that is drawn. -/
def GoodM (c : Nat → Int) (W N : Nat) (x : Int × Value × List Nat) : Prop := (0 ≤ x.1 ∧ x.1 ≤ 2) ∧ (1 ≤ x.2.2.length ∧ x.2.2.length ≤ 64) ∧ (∀ k ∈ x.2.2, k < N ∧ waxS c (k % W) (k / W) = false) ∧ x.2.2.Nodup
theorem good_ok {c : Nat → Int} {W H : Nat} (hW : c 0 = W) (hH : c 1 = H) (W0 : 0 < W) {x : Int × Value × List Nat} (h : GoodM c W (H * W) x) : mkOkB c (mkM W x) = true := by
  obtain ⟨h1, h2, h3, h4⟩ := h
  have hk : ∀ i, i < x.2.2.length → x.2.2.getD i 0 < H * W ∧ waxS c (x.2.2.getD i 0 % W) (x.2.2.getD i 0 / W) = false := fun i hi => by
    have hg : x.2.2.getD i 0 = x.2.2[i] := by rw [List.getD_eq_getElem?_getD, List.getElem?_eq_getElem hi]; rfl
    rw [hg]
    exact h3 _ (List.getElem_mem hi)
  unfold mkOkB
  simp only [Bool.and_eq_true, inB_true, Bool.not_eq_true', decide_eq_true_eq]
  refine ⟨h1, by show 1 ≤ ((x.2.2.length : Nat) : Int) ∧ ((x.2.2.length : Nat) : Int) ≤ 64; omega, anyB_no (fun i hi => ?_), anyB_no (fun i hi => ?_), fun i j hij hj e => ?_⟩
  · obtain ⟨e1, e2⟩ := fM_even W x.2.2 i
    show (!(isP c (fM W x.2.2 (i * 2)) (fM W x.2.2 (i * 2 + 1)))) = false
    rw [e1, e2, isP_yes hW hH (Nat.mod_lt _ W0) ((Nat.div_lt_iff_lt_mul W0).2 (hk i hi).1)]; rfl
  · obtain ⟨e1, e2⟩ := fM_even W x.2.2 i
    show waxS c (fM W x.2.2 (i * 2)).toNat (fM W x.2.2 (i * 2 + 1)).toNat = false
    rw [e1, e2, Int.toNat_natCast, Int.toNat_natCast]
    exact (hk i hi).2
  · replace e : fM W x.2.2 (i * 2) = fM W x.2.2 (j * 2) ∧ fM W x.2.2 (i * 2 + 1) = fM W x.2.2 (j * 2 + 1) := e
    replace hj : j < x.2.2.length := hj
    obtain ⟨a1, a2⟩ := fM_even W x.2.2 i
    obtain ⟨b1, b2⟩ := fM_even W x.2.2 j
    rw [a1, a2, b1, b2] at e
    have q1 : x.2.2.getD i 0 % W = x.2.2.getD j 0 % W := by omega
    have q2 : x.2.2.getD i 0 / W = x.2.2.getD j 0 / W := by omega
    have q3 : x.2.2.getD i 0 = x.2.2.getD j 0 := by rw [← Nat.div_add_mod (x.2.2.getD i 0) W, ← Nat.div_add_mod (x.2.2.getD j 0) W, q1, q2]
    rw [List.getD_eq_getElem?_getD, List.getD_eq_getElem?_getD, List.getElem?_eq_getElem (show i < x.2.2.length by omega), List.getElem?_eq_getElem hj] at q3
    exact (List.pairwise_iff_getElem.1 h4) i j (by omega) hj hij (by simpa using q3)
open Classical in
theorem good_vm {c : Nat → Int} {W H : Nat} (hok : okS c = true) (hW : c 0 = W) (hH : c 1 = H) (W0 : 0 < W) {n : Nat} (hn : n ≤ 6) {F : Nat → Mk} (h : ∀ k, k < n → ∃ x, F k = mkM W x ∧ GoodM c W (H * W) x) : vmB c n F = true := by
  unfold vmB
  simp only [Bool.and_eq_true, decide_eq_true_eq]
  exact ⟨hok, hn, fun k hk => by
    obtain ⟨x, e, hx⟩ := h k hk
    rw [e]
    exact good_ok hW hH W0 hx⟩
theorem good_in {c : Nat → Int} {W N : Nat} (hW : W ≤ 8) (hN : N ≤ 64) (W0 : 0 < W) {x : Int × Value × List Nat} (h : GoodM c W N x) : MkIn (mkM W x) ∧ (mkM W x).n ≤ 64 := by
  obtain ⟨h1, h2, h3, h4⟩ := h
  refine ⟨⟨by show -128 ≤ x.1 ∧ x.1 ≤ 127; omega, by show x.2.2.length ≤ _; omega, fun j hj => ?_⟩, by show x.2.2.length ≤ 64; omega⟩
  have hj2 : j / 2 < x.2.2.length := by have : j < x.2.2.length * 2 := hj; omega
  have hk := (h3 _ (List.getElem_mem hj2)).1
  have hg : x.2.2.getD (j / 2) 0 = x.2.2[j / 2] := by rw [List.getD_eq_getElem?_getD, List.getElem?_eq_getElem hj2]; rfl
  have b1 : x.2.2[j / 2] % W < W := Nat.mod_lt _ W0
  have b2 : x.2.2[j / 2] / W ≤ x.2.2[j / 2] := Nat.div_le_self _ _
  show (Lit.int .i8 (fM W x.2.2 j)).wf = true
  have hv : 0 ≤ fM W x.2.2 j ∧ fM W x.2.2 j ≤ 127 := by
    unfold fM
    rw [hg]
    generalize x.2.2[j / 2] % W = r at *
    generalize x.2.2[j / 2] / W = q at *
    split <;> omega
  generalize fM W x.2.2 j = y at *
  unfold Lit.wf
  simp only [IntKind.min, IntKind.max, IntKind.bits, IntKind.signed]
  simp; omega
end Go.Proofs.YtejnejplofddnaaGreatDoor
/- Appends that lie above what stood before; marks in memory. -/
namespace Go.Proofs.YtejnejplofddnaaGreatDoor
open Go.RowKit
set_option linter.unusedVariables false
set_option linter.unusedSimpArgs false
set_option maxRecDepth 100000
/-- A row that is owned, or an empty one without room, wherever. -/
def OwnZ (w : World) (base : Nat) (e : TypeId) (size : Nat) (v : Value) (n : Nat) (xs : List Value) : Prop := w.ownsRow base e size v n xs ∨ (n = 0 ∧ xs = [] ∧ ∃ b : Nat, v = .slice (some ⟨b, 0, none⟩) 0 0)
theorem append_ownZ {P : Program} (w : World) (base : Nat) (t ty e : TypeId) (i : TypeInfo) (z : Value) (size bytes : Nat) (ht : P.underlying t = some (.slice e)) (hi : P.info? e = some i) (hz : i.zero = some z)
    (hsize : i.size = size) (hby : i.bytes = bytes) (hzs : z.cells.size = size) (hsz : 0 < size)
    (v : Value) (n : Nat) (xs : List Value) (hown : OwnZ w base e size v n xs)
    (a : Addr) (m c : Nat) (news : List Value) (hm : 0 < m) (hl : news.length = m * size) (hnews : ∀ j u, news[j]? = some u → w.cell? (a.add j) = some u) (h1 : ∀ u ∈ news, u.oneCell' = true)
    (h63 : n + m ≤ maxLen) (hbytes : (n + m) * bytes ≤ 140737488355328) (hbase : base ≤ w.heap.size) :
    ∃ g' c' w', (Builtin.append_ #[t, t] ty #[v, .slice (some a) m c]).run P w = .ok (.slice (some ⟨g', 0, none⟩) (n + m) c') w' ∧ w'.ownsRow base e size (.slice (some ⟨g', 0, none⟩) (n + m) c') (n + m) (xs ++ news) ∧ Below base w w' := by
  rcases hown with hown | ⟨rfl, rfl, b, rfl⟩
  · obtain ⟨v', w', hr, ho, hg, hn⟩ := run_append_own (P := P) w base t ty e i z size bytes ht hi hz hsize hby hzs hsz v n xs hown a m c news hl hnews h1 h63 hbytes hbase
    have hb : Below base w w' := ⟨hg.os, hg.tape, hg.output, hg.size, fun k hk => hg.block k (by omega) (fun e => by
      have := (hown.lt k e.symm).1
      omega)⟩
    rcases ho.2 with ⟨h0, -⟩ | ⟨g', c', cur, h0, -⟩
    · exact absurd (hn.1 h0).2 (by omega)
    · subst h0
      exact ⟨g', c', w', hr, ho, hb⟩
  · subst hsize
    subst hby
    have hsmall : 0 + m ≤ 9223372036854775807 := by simp only [maxLen] at h63; omega
    have hr := run_append_grow (P := P) w t ty e i z ht hi hz ⟨b, 0, none⟩ 0 0 [] (by simp) (fun j u hj => by simp at hj) a m c news hl hnews (by omega) (by omega) (growslice_fits (by omega) hbytes)
    have hge := grownCap_ge w (0 + m) 0 e
    have hcm : grownCap w (0 + m) 0 e ≤ maxLen := grownCap_le_maxLen w (0 + m) 0 e h63
    refine ⟨_, _, _, hr, ⟨by simpa using hl, .inr ⟨w.heap.size, _, _, rfl, hbase, heap_alloc_new w.drew _, hge, hcm, ?_, ?_⟩⟩, ⟨rfl, rfl, rfl, by simp, fun k hk => heap_alloc_old w.drew _ (by simp; omega)⟩⟩
    · simp only [Array.size_append, List.size_toArray, size_zeroCells, hzs, hl, List.length_nil, Nat.zero_add, ← Nat.add_mul]
      congr 1
      simp only [Nat.zero_add] at hge
      omega
    · simp only [Array.toList_append, List.append_assoc, List.nil_append, Nat.zero_add]
      rw [← hl]
      exact List.take_left
theorem wpList_append_ownZ {P : Program} (w : World) {ops : Array Oper} {rest : List Oper} {o : Oper} {a : Act} {Q : Exit → Act → World → Prop} (hgd : o.guard = none) (s x : Operand) (t : TypeId)
    (ho : o.op = .call { callee := .builtin .append, args := #[s, x], argTypes := #[t, t] })
    (base : Nat) (e : TypeId) (i : TypeInfo) (z : Value) (size bytes : Nat) (ht : P.underlying t = some (.slice e)) (hi : P.info? e = some i) (hz : i.zero = some z)
    (hsize : i.size = size) (hby : i.bytes = bytes) (hzs : z.cells.size = size) (hsz : 0 < size)
    (v : Value) (n : Nat) (xs : List Value) (hs : a.eval s = v) (hown : OwnZ w base e size v n xs)
    (ad : Addr) (m c : Nat) (news : List Value) (hx : a.eval x = .slice (some ad) m c) (hm : 0 < m) (hl : news.length = m * size) (hnews : ∀ j u, news[j]? = some u → w.cell? (ad.add j) = some u) (h1 : ∀ u ∈ news, u.oneCell' = true)
    (h63 : n + m ≤ maxLen) (hbytes : (n + m) * bytes ≤ 140737488355328) (hbase : base ≤ w.heap.size)
    (h : ∀ g' c' w', w'.ownsRow base e size (.slice (some ⟨g', 0, none⟩) (n + m) c') (n + m) (xs ++ news) → Below base w w' → wpList P ops Q rest (a.put o.dst (.slice (some ⟨g', 0, none⟩) (n + m) c')) w') : wpList P ops Q (o :: rest) a w := by
  obtain ⟨g', c', w', hr, h2, h3⟩ := append_ownZ (P := P) w base t o.type e i z size bytes ht hi hz hsize hby hzs hsz v n xs hown ad m c news hm hl hnews h1 h63 hbytes hbase
  exact Lib.wpList_append_run w hgd s x t t ho v (.slice (some ad) m c) hs hx _ w' hr (h g' c' w' h2 h3)
theorem OwnZ.below {w w' : World} {base : Nat} {e : TypeId} {s : Nat} {v : Value} {n B : Nat} {xs : List Value} (h : OwnZ w base e s v n xs) (hb : Below B w w') (hB : w.heap.size ≤ B) : OwnZ w' base e s v n xs := by
  rcases h with ⟨hl, h0 | ⟨g, cap, cur, rfl, h1, hg, h2⟩⟩ | h
  · exact .inl ⟨hl, .inl h0⟩
  · exact .inl ⟨hl, .inr ⟨g, cap, cur, rfl, h1, (hb.block g (by have := (Array.getElem?_eq_some_iff.1 hg).1; omega)).trans hg, h2⟩⟩
  · exact .inr h
theorem owns_keepB {w w' : World} {base : Nat} {e : TypeId} {s : Nat} {v : Value} {n B : Nat} {xs : List Value} (h : w.ownsRow base e s v n xs) (hb : Below B w w') (hB : ∀ q, v.ownBlock = some q → q < B) : w'.ownsRow base e s v n xs := by
  obtain ⟨hl, h0 | ⟨g, cap, cur, rfl, h1, hg, h2⟩⟩ := h
  · exact ⟨hl, .inl h0⟩
  · exact ⟨hl, .inr ⟨g, cap, cur, rfl, h1, (hb.block g (hB g rfl)).trans hg, h2⟩⟩
theorem owns_set {w : World} {base : Nat} {e : TypeId} {s : Nat} {v : Value} {n g i : Nat} {xs : List Value} (h : w.ownsRow base e s v n xs) (hg : g < base) (u : Value) : (w.setCell ⟨g, i, none⟩ u).ownsRow base e s v n xs := by
  obtain ⟨hl, h0 | ⟨g', cap, cur, rfl, h1, hh, h2⟩⟩ := h
  · exact ⟨hl, .inl h0⟩
  · exact ⟨hl, .inr ⟨g', cap, cur, rfl, h1, (Below.heap_setCell _ _ _ _ (by show g' ≠ g; omega)).trans hh, h2⟩⟩
theorem owns_downM {w : World} {base b' n s : Nat} {e : TypeId} {v : Value} {xs : List Value} (h : w.ownsRow base e s v n xs) (hb : b' ≤ base) : w.ownsRow b' e s v n xs := by
  obtain ⟨hl, h0 | ⟨g', cap, cur, rfl, h1, h2⟩⟩ := h
  · exact ⟨hl, .inl h0⟩
  · exact ⟨hl, .inr ⟨g', cap, cur, rfl, Nat.le_trans hb h1, h2⟩⟩
theorem owns_formM {w : World} {base n s : Nat} {e : TypeId} {v : Value} {xs : List Value} (h : w.ownsRow base e s v n xs) (hn : v ≠ .slice none 0 0) : ∃ g cap, v = .slice (some ⟨g, 0, none⟩) n cap := by
  obtain ⟨hl, ⟨hv, -⟩ | ⟨g', cap', cur, hv, -⟩⟩ := h
  · exact absurd hv hn
  · exact ⟨g', cap', hv⟩
/-- Rows of two sorts don't lie in one block. -/
theorem ty_apart {w : World} {b1 b2 s1 s2 n1 n2 : Nat} {e1 e2 : TypeId} {v1 v2 : Value} {xs1 xs2 : List Value} (h1 : w.ownsRow b1 e1 s1 v1 n1 xs1) (h2 : w.ownsRow b2 e2 s2 v2 n2 xs2) (hne : e1 ≠ e2) : v1.ownBlock = none ∨ v1.ownBlock ≠ v2.ownBlock := by
  obtain ⟨-, ⟨rfl, -⟩ | ⟨g, cap, cur, rfl, -, hg, -⟩⟩ := h1
  · exact .inl rfl
  · obtain ⟨-, ⟨rfl, -⟩ | ⟨g2, cap2, cur2, rfl, -, hg2, -⟩⟩ := h2
    · exact .inr (by simp [Value.ownBlock])
    · refine .inr (fun e => ?_)
      simp only [Value.ownBlock, Option.some.injEq] at e
      subst e
      rw [hg] at hg2
      simp only [Option.some.injEq, Obj.cells.injEq] at hg2
      exact hne hg2.2.1
/-- The cells of marks. -/
def mkC (Ms : List (Int × Value × List Nat)) : List Value := Ms.flatMap fun x => [.int .i8 x.1, x.2.1]
theorem mkC_snoc (Ms : List (Int × Value × List Nat)) (x : Int × Value × List Nat) : mkC (Ms ++ [x]) = mkC Ms ++ [.int .i8 x.1, x.2.1] := by unfold mkC; rw [List.flatMap_append]; simp
theorem mkC_at {Ms : List (Int × Value × List Nat)} : ∀ {k : Nat} {x : Int × Value × List Nat}, Ms[k]? = some x → (mkC Ms)[k * 2]? = some (.int .i8 x.1) ∧ (mkC Ms)[k * 2 + 1]? = some x.2.1 := by
  induction Ms with
  | nil => intro k x h; simp at h
  | cons a r ih =>
    intro k x h
    unfold mkC
    rw [List.flatMap_cons]
    match k, h with
    | 0, h => simp at h; subst h; exact ⟨rfl, rfl⟩
    | k + 1, h =>
      obtain ⟨h1, h2⟩ := ih (k := k) (x := x) (by simpa using h)
      unfold mkC at h1 h2
      rw [show (k + 1) * 2 = k * 2 + 2 by omega]
      exact ⟨by simpa using h1, by simpa using h2⟩
/-- Marks in memory. -/
def MksAt (w : World) (B W : Nat) (v : Value) (Ms : List (Int × Value × List Nat)) : Prop := w.ownsRow B 51 2 v Ms.length (mkC Ms) ∧ ∀ x ∈ Ms, w.ownsRow B 59 2 x.2.1 x.2.2.length (spL W x.2.2)
def mkF (W : Nat) (Ms : List (Int × Value × List Nat)) (k : Nat) : Mk := mkM W (Ms.getD k (0, .slice none 0 0, []))
theorem mkF_at {W k : Nat} {Ms : List (Int × Value × List Nat)} {x : Int × Value × List Nat} (h : Ms[k]? = some x) : mkF W Ms k = mkM W x := by unfold mkF; rw [List.getD_eq_getElem?_getD, h]; rfl
theorem MksAt.own {w : World} {B W : Nat} {v : Value} {Ms : List (Int × Value × List Nat)} (h : MksAt w B W v Ms) : OwnM w B v Ms.length (mkF W Ms) := by
  refine ⟨OwnV.of h.1 (fun k hk j hj => ?_), fun k hk => ?_⟩
  · have he := List.getElem?_eq_getElem hk
    obtain ⟨h1, h2⟩ := mkC_at he
    unfold mkV
    rw [mkF_at he]
    have hj2 : j = 0 ∨ j = 1 := by omega
    rcases hj2 with rfl | rfl
    · exact h1
    · exact h2
  · have he := List.getElem?_eq_getElem hk
    rw [mkF_at he]
    exact OwnK.of (h.2 _ (List.getElem_mem hk)) (fun j hj => spL_fM hj)
end Go.Proofs.YtejnejplofddnaaGreatDoor
