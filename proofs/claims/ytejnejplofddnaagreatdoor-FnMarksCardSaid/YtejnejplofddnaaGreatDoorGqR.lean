/- Several texts in one: TurnO FnS. -/
import Derived.Test.YtejnejplofddnaaGreatDoorGqN
import Derived.Test.YtejnejplofddnaaGreatDoorGqJ
import Derived.Test.YtejnejplofddnaaGreatDoorGqF
import Derived.Test.YtejnejplofddnaaGreatDoorGqD
import Derived.Deep.DeepCutAuto
import Derived.Test.YtejnejplofddnaaGreatDoorGqC
import Derived.BigQuiet
/- An order that is drawn: each number is put to a place among those before it. -/
namespace Go.Proofs.YtejnejplofddnaaGreatDoor
open Go.RowKit
set_option linter.unusedVariables false
set_option linter.unusedSimpArgs false
set_option maxRecDepth 100000
theorem owns_cut {w : World} {base n k g cap : Nat} {e : TypeId} {xs : List Value} (h : w.ownsRow base e 1 (.slice (some ⟨g, 0, none⟩) n cap) n xs) (hk : k ≤ n) : w.ownsRow base e 1 (.slice (some ⟨g, 0, none⟩) k cap) k (xs.take k) := by
  obtain ⟨hl, ⟨hv, -⟩ | ⟨g', cap', cur, hv, hb, hg, h1, h2, h3, h4⟩⟩ := h
  · cases hv
  · simp only [Value.slice.injEq, Option.some.injEq, Addr.mk.injEq] at hv
    obtain ⟨⟨rfl, -, -⟩, -, rfl⟩ := hv
    refine ⟨by rw [List.length_take]; omega, .inr ⟨g, cap, cur, rfl, hb, hg, by omega, h2, h3, ?_⟩⟩
    rw [← h4, List.take_take]
    congr 1
    omega
theorem owns_cap {w : World} {base n g cap : Nat} {e : TypeId} {xs : List Value} (h : w.ownsRow base e 1 (.slice (some ⟨g, 0, none⟩) n cap) n xs) : n ≤ cap ∧ base ≤ g ∧ g < w.heap.size ∧ ∀ (j : Nat) (u : Value), xs[j]? = some u → (rowOf w g)[j]? = some u := by
  obtain ⟨hl, ⟨hv, -⟩ | ⟨g', cap', cur, hv, hb, hg, h1, h2, h3, h4⟩⟩ := h
  · cases hv
  · simp only [Value.slice.injEq, Option.some.injEq, Addr.mk.injEq] at hv
    obtain ⟨⟨rfl, -, -⟩, -, rfl⟩ := hv
    refine ⟨h1, hb, (Array.getElem?_eq_some_iff.1 hg).1, fun j u hj => ?_⟩
    have hrow : rowOf w g = cur := by simp [rowOf, hg, objRow]
    rw [hrow, ← Array.getElem?_toList]
    rw [← h4, List.getElem?_take] at hj
    split at hj
    · exact hj
    · cases hj
theorem owns_some1 {w : World} {base n : Nat} {e : TypeId} {v : Value} {xs : List Value} (h : w.ownsRow base e 1 v n xs) (hn : v ≠ .slice none 0 0) : ∃ g cap, v = .slice (some ⟨g, 0, none⟩) n cap := by
  obtain ⟨hl, ⟨hv, -⟩ | ⟨g', cap', cur, hv, -⟩⟩ := h
  · exact absurd hv hn
  · exact ⟨g', cap', hv⟩
theorem grown_fr1 {w w' : World} {row : Option Nat} (g : w.grownBy w' row) {k : Nat} (hk : k < w.heap.size) (hne : some k ≠ row) : frOf w' k = frOf w k := by unfold frOf; rw [g.block k hk hne]
/-- A number put to a place. -/
def putAt (T : List Nat) (m k : Nat) : List Nat := T.take m ++ [k] ++ T.drop m
theorem putAt_perm {T : List Nat} {k m : Nat} (h : T.Perm (List.range k)) : (putAt T m k).Perm (List.range (k + 1)) := by
  unfold putAt
  rw [List.range_succ]
  have h1 : (T.take m ++ [k] ++ T.drop m).Perm (T.take m ++ T.drop m ++ [k]) := by
    rw [List.append_assoc, List.append_assoc]
    exact List.Perm.append_left _ List.perm_append_comm
  rw [List.take_append_drop] at h1
  exact h1.trans (h.append_right _)
theorem nlV_take (T : List Nat) (m : Nat) : nlV (T.take m) = (nlV T).take m := by unfold nlV; rw [List.map_take]
theorem nlV_drop (T : List Nat) (m : Nat) : nlV (T.drop m) = (nlV T).drop m := by unfold nlV; rw [List.map_drop]
theorem nlV_put (T : List Nat) (m k : Nat) : nlV (putAt T m k) = (nlV T).take m ++ [.int .i64 (k : Int)] ++ nlV (T.drop m) := by
  unfold putAt
  rw [← nlV_take]
  unfold nlV
  rw [List.map_append, List.map_append]; rfl
theorem perm_prm {T : List Nat} {n : Nat} (h : T.Perm (List.range n)) : PrmP (nl T) n n := by
  have hl : T.length = n := by rw [h.length_eq, List.length_range]
  refine ⟨rfl, fun i hi => ?_, fun j hj i hi e => ?_⟩
  · have hm := h.mem_iff.1 (List.getElem_mem (show i < T.length by omega))
    rw [nl_at (List.getElem?_eq_getElem (show i < T.length by omega))]
    have := List.mem_range.1 hm
    omega
  · have hnd : T.Nodup := h.nodup_iff.2 List.nodup_range
    have h1 := (List.pairwise_iff_getElem.1 hnd) i j (by omega) (by omega) hi
    rw [nl_at (List.getElem?_eq_getElem (show i < T.length by omega)), nl_at (List.getElem?_eq_getElem (show j < T.length by omega))] at e
    exact h1 (by omega)
theorem slice_high (g k c m : Nat) (h : m ≤ k) (hc : k ≤ c) (W : World) : (Instr.slice 37 (.slice (some ⟨g, 0, none⟩) k c) none (some (.int .i64 (m : Int))) none).run Tryz.prog W = .ok (.slice (some ⟨g, 0, none⟩) m c) W := by
  obtain ⟨i0, z0, hi0, hz0, hs0, hb0, hc0⟩ := i64_info
  rw [run_slice_at _ _ i0 Tryz.underlying37 hi0 _ _ _ _ _ _ _ _ _ (bounds_high k c (m : Int) (by omega))]
  rw [Nat.sub_zero, Nat.sub_zero, Int.toNat_natCast]
  split
  · rfl
  · simp only [Option.map_some, addr_add0]
    rw [Nat.zero_mul]
theorem slice_low (g k c m : Nat) (h : m ≤ k) (hc : k ≤ c) : ∃ ad c2, (k - m = 0 ∨ ad = (⟨g, m, none⟩ : Addr)) ∧ ∀ W : World, (Instr.slice 37 (.slice (some ⟨g, 0, none⟩) k c) (some (.int .i64 (m : Int))) none none).run Tryz.prog W = .ok (.slice (some ad) (k - m) c2) W := by
  obtain ⟨i0, z0, hi0, hz0, hs0, hb0, hc0⟩ := i64_info
  by_cases hic : c = m
  · refine ⟨⟨g, 0, none⟩, c - m, .inl (by omega), fun W => ?_⟩
    rw [run_slice_at _ _ i0 Tryz.underlying37 hi0 _ _ _ _ _ _ _ _ _ (bounds_low k c (m : Int) (by omega)), if_pos (by omega), Int.toNat_natCast]
  · refine ⟨⟨g, m, none⟩, c - m, .inr rfl, fun W => ?_⟩
    rw [run_slice_at _ _ i0 Tryz.underlying37 hi0 _ _ _ _ _ _ _ _ _ (bounds_low k c (m : Int) (by omega)), if_neg (by omega), hs0]
    simp only [Option.map_some, addr_add0]
    rw [Int.toNat_natCast, Nat.mul_one]
set_option maxHeartbeats 2000000 in
theorem l00Own_sl (ad : Addr) (c n : Nat) (l : List Nat) (hl : l.length = n) (hn : n ≤ 1048576) (w : World) (had : n = 0 ∨ ∃ g o, ad = ⟨g, o, none⟩ ∧ g < w.heap.size ∧ ∀ (j : Nat) (u : Value), (nlV l)[j]? = some u → (rowOf w g)[o + j]? = some u) :
    Calls Tryz.prog 86 #[.slice (some ad) n c] w fun e w' => ∃ g' c', e = .returned (.slice (some ⟨g', 0, none⟩) n c') ∧ w'.ownsRow w.heap.size 2 1 (.slice (some ⟨g', 0, none⟩) n c') n (nlV l) ∧ Below w.heap.size w w' := by
  obtain ⟨i0, z0, hi0, hz0, hs0, hb0, hc0⟩ := i64_info
  rcases had with h0 | ⟨g, o, rfl, hg, hc⟩
  · subst h0
    have hl0 : l = [] := List.eq_nil_of_length_eq_zero hl
    subst hl0
    have HZ := Lib.hid (fun b w => append_zero (P := Tryz.prog) 37 37 2 i0 Tryz.underlying37 hi0 b (some ad) 0 0 c (by omega) w)
    go_enter Tryz.func86, Tryz.ntmps86
    go_wp2_with (at_builtin; refine Lib.wpList_append_run _ rfl _ _ _ _ rfl _ _ rfl rfl _ _ (HZ.out _ _) ?_)
    go_ret
    exact ⟨_, _, rfl, owns_empty1 _ _, by repeat' (first | with_reducible exact Below.refl _ _ | with_reducible assumption | with_reducible refine Below.drew ?_ | with_reducible refine Below.drewN ?_ _ | with_reducible refine Below.alloc ?_ ?_ _ | with_reducible refine Below.setCell ?_ ?_ _ | with_reducible refine Below.setRow ?_ ?_ _ | with_reducible refine below_step (by assumption) ?_ ?_ | (show (_ : Nat) ≤ _; first | omega | (simp <;> omega)))⟩
  · have HC := Lib.hid hc
    clear hc
    go_enter Tryz.func86, Tryz.ntmps86
    go_wp2_with (at_builtin; refine wpList_append_own _ rfl _ _ 37 rfl w.heap.size 2 i0 z0 1 8 Tryz.underlying37 hi0 hz0 hs0 hb0 hc0 (by decide) _ _ _ rfl (owns_empty1 w _) ⟨g, o, none⟩ n c (nlV l) rfl (by rw [nlV_len, Nat.mul_one, hl]) ?c1 (nlV_one l) ?c3 ?c4 ?c5 ?_)
    case c1 =>
      intro j u hj
      have : ((⟨g, o, none⟩ : Addr).add j) = ⟨g, o + j, none⟩ := by unfold Addr.add; split <;> simp_all
      have e := HC.out j u hj
      rw [this, cell_row]
      go_simp
    case c3 => unfold maxLen; omega
    case c4 => omega
    case c5 => simp
    intro v' w1 hown' hgrow hnil
    have hne : v' ≠ .slice none 0 0 := fun e => by first | exact hnil e | (have := (hnil.1 e).1; cases this)
    (try simp only [Nat.zero_add, List.nil_append] at hown')
    obtain ⟨g', c', rfl⟩ := owns_some1 hown' hne
    have hbg : Below w.heap.size w w1 := below_grown (Below.alloc (Below.refl _ _) (Nat.le_refl _) _) hgrow (fun k hk => by simp [Value.ownBlock] at hk; omega) (by simp)
    have HW := Lib.hid hown'
    have HB := Lib.hid hbg
    clear hown' hgrow hbg hne hnil
    go_wp2
    go_ret
    exact ⟨_, _, rfl, HW.out, HB.out⟩
set_option maxHeartbeats 8000000 in
theorem l06Turned_any (B p : Nat) (a : Option Addr) (len cap t : Nat) (sd : Int) (n : Nat) (hn : n ≤ 100) (ht : t ≤ 1000000) (w : World) (hB : B ≤ p) (hc : CodeIn B w a len) (hr : rowOf w p = srcR a len cap t sd) (hf : frOf w p = (0, 0)) (hp : p < w.heap.size) :
    Calls Tryz.prog 40 #[.pointer (some ⟨p, 0, none⟩), .int .i64 (n : Int)] w fun e w' => ∃ (g c : Nat) (T : List Nat), e = .returned (.slice (some ⟨g, 0, none⟩) n c) ∧ w'.ownsRow w.heap.size 2 1 (.slice (some ⟨g, 0, none⟩) n c) n (nlV T) ∧ T.Perm (List.range n) ∧ Below p w w' := by
  obtain ⟨i0, z0, hi0, hz0, hs0, hb0, hc0⟩ := i64_info
  have HC := Lib.hid hc
  have HP := Lib.hid (fun t sd n w2 ht hn hc hr hf hp => pick_any B p a len cap t sd n ht hn w2 hB hc hr hf hp)
  clear hc
  go_enter Tryz.func40, Tryz.ntmps40
  go_wp2
  go_loopw [6, 5] (fun z u wr => ∃ (k t : Nat) (sd : Int) (g c : Nat) (T : List Nat), k ≤ n ∧ z = .int .i64 k ∧ u = .slice (some ⟨g, 0, none⟩) k c ∧ wr.ownsRow w.heap.size 2 1 (.slice (some ⟨g, 0, none⟩) k c) k (nlV T) ∧ T.Perm (List.range k) ∧ Below p w wr ∧ w.heap.size ≤ wr.heap.size ∧ t ≤ 1000000 + k ∧ rowOf wr p = srcR a len cap t sd ∧ frOf wr p = (0, 0)) (fun z u wr => n + 1 - (intOf z).toNat)
  case atStart => exact ⟨0, t, sd, w.heap.size, 0, [], by omega, rfl, rfl, owns_empty1 _ _, List.Perm.refl _, by repeat' (first | with_reducible exact Below.refl _ _ | with_reducible assumption | with_reducible refine Below.drew ?_ | with_reducible refine Below.drewN ?_ _ | with_reducible refine Below.alloc ?_ ?_ _ | with_reducible refine Below.setCell ?_ ?_ _ | with_reducible refine Below.setRow ?_ ?_ _ | with_reducible refine below_step (by assumption) ?_ ?_ | (show (_ : Nat) ≤ _; first | omega | (simp <;> omega))), by simp, by omega, by (go_simp <;> (intros; omega)), by (go_simp <;> (intros; omega))⟩
  case round =>
    obtain ⟨k, t, sd, g, c, T, hk, rfl, rfl, hown, hT, hb, hsz, ht, hrp, hfp⟩ := hrel
    have hpw : p < wr.heap.size := by omega
    obtain ⟨hkc, hgw, hgs, hcells⟩ := owns_cap hown
    have hTl : T.length = k := by rw [hT.length_eq, List.length_range]
    have HO := Lib.hid hown
    have HT := Lib.hid hT
    have HCL := Lib.hid hcells
    clear hown hT hcells
    by_cases hlt : k < n
    · have hlt2 : (k : Int) < (n : Int) := by omega
      have hw1 : IntKind.i64.wrap ((k : Int) + 1) = ((k + 1 : Nat) : Int) := by rw [IntWalk.i64_in _ (by omega)]; rfl
      have HE1 := Lib.hid (fun m hm W => slice_high g k c m hm hkc W)
      have HE2 := Lib.hid (fun m hm => slice_low g k c m hm hkc)
      go_wp2_with (go_at_call 83; refine (HP.out t sd _ _ (by omega) (by first | omega | (simp <;> omega)) (HC.out.below (B' := B) (by repeat' (first | with_reducible exact Below.refl _ _ | with_reducible assumption | with_reducible refine Below.drew ?_ | with_reducible refine Below.drewN ?_ _ | with_reducible refine Below.alloc ?_ ?_ _ | with_reducible refine Below.setCell ?_ ?_ _ | with_reducible refine Below.setRow ?_ ?_ _ | with_reducible refine below_step (by assumption) ?_ ?_ | (show (_ : Nat) ≤ _; first | omega | (simp <;> omega)))) (Nat.le_refl _)) (by (go_simp <;> (intros; omega))) (by (go_simp <;> (intros; omega))) (by first | omega | (simp <;> omega))).mono ?_; rintro e w1 ⟨x, sd, t, rfl, hx, ht, hs⟩; have r_w1 := hs.rowA; have f_w1 := hs.frA; have s_w1 := hs.size; have hb_w1 := hs.below; have HO := Lib.hid (hs.owns HO.out (by omega)); clear hs; (try simp only [World.size_alloc, World.size_setCell, setRow_size, World.size_drew, size_drewNm] at r_w1 f_w1 s_w1); obtain ⟨m, hm⟩ : ∃ m : Nat, x = (m : Int) := ⟨x.toNat, by omega⟩; subst hm; have hmk : m ≤ k := (by omega); have e1 := HE1.out m hmk; obtain ⟨ad, c2, had, e2⟩ := HE2.out m hmk)
      go_wp2_with (first | (go_at_call 86; refine (l00Own_sl ad c2 (k - m) (T.drop m) (by rw [List.length_drop, hTl]) (by omega) _ (had.imp id (fun e => ⟨g, m, e, by first | omega | (simp <;> omega), fun j u hj => by rw [nlV_drop, List.getElem?_drop] at hj; have e := HCL.out _ _ hj; go_simp⟩))).mono ?_; rintro e w2 ⟨g2, c3, rfl, hown2, hb2⟩; obtain ⟨hkc2, hgw2, hgs2, hcells2⟩ := owns_cap hown2; have HO2 := Lib.hid (owns_below HO.out (show Below w1.heap.size w1 w2 from by repeat' (first | with_reducible exact Below.refl _ _ | with_reducible assumption | with_reducible refine Below.drew ?_ | with_reducible refine Below.drewN ?_ _ | with_reducible refine Below.alloc ?_ ?_ _ | with_reducible refine Below.setCell ?_ ?_ _ | with_reducible refine Below.setRow ?_ ?_ _ | with_reducible refine below_step (by assumption) ?_ ?_ | (show (_ : Nat) ≤ _; first | omega | (simp <;> omega))))); have HC2 := Lib.hid hcells2; clear hown2 hcells2; have r_hb2 := keep_rowA hb2; have f_hb2 := keep_frA hb2; have s_hb2 := hb2.size; (try simp only [World.size_alloc, World.size_setCell, setRow_size, World.size_drew, size_drewNm] at r_hb2 f_hb2 s_hb2)) | (at_builtin; refine wpList_append_own _ rfl _ _ 37 rfl w.heap.size 2 i0 z0 1 8 Tryz.underlying37 hi0 hz0 hs0 hb0 hc0 (by decide) _ _ _ rfl (owns_cut (owns_below HO2.out (by repeat' (first | with_reducible exact Below.refl _ _ | with_reducible assumption | with_reducible refine Below.drew ?_ | with_reducible refine Below.drewN ?_ _ | with_reducible refine Below.alloc ?_ ?_ _ | with_reducible refine Below.setCell ?_ ?_ _ | with_reducible refine Below.setRow ?_ ?_ _ | with_reducible refine below_step (by assumption) ?_ ?_ | (show (_ : Nat) ≤ _; first | omega | (simp <;> omega))))) hmk) ⟨w2.heap.size, 0, none⟩ 1 1 [.int .i64 (k : Int)] rfl rfl ?c1 ?c2 ?c3 ?c4 ?c5 ?_))
      case c1 =>
        intro j u hj
        match j, hj with
        | 0, hj => simp at hj; subst hj; simp [Addr.add]
      case c2 => intro u hu; simp at hu; subst hu; rfl
      case c3 => unfold maxLen; omega
      case c4 => omega
      case c5 => simp; omega
      intro v3 w3 hown3 hgrow3 hnil3
      have hne3 : v3 ≠ .slice none 0 0 := fun e => by first | exact hnil3 e | (have := (hnil3.1 e).1; cases this)
      obtain ⟨g3, c4, rfl⟩ := owns_some1 hown3 hne3
      have hb3 : Below p w w3 := below_grown (show Below p w _ from by repeat' (first | with_reducible exact Below.refl _ _ | with_reducible assumption | with_reducible refine Below.drew ?_ | with_reducible refine Below.drewN ?_ _ | with_reducible refine Below.alloc ?_ ?_ _ | with_reducible refine Below.setCell ?_ ?_ _ | with_reducible refine Below.setRow ?_ ?_ _ | with_reducible refine below_step (by assumption) ?_ ?_ | (show (_ : Nat) ≤ _; first | omega | (simp <;> omega)))) hgrow3 (fun q hq => by simp [Value.ownBlock] at hq; omega) (by simp; omega)
      have hs3 : w2.heap.size + 1 ≤ w3.heap.size := by have := hgrow3.size; simp at this; omega
      have hr2 : rowOf w3 g2 = rowOf w2 g2 := by
        rw [grown_row hgrow3 (by simp; omega) (by simp [Value.ownBlock]; omega)]
        go_simp
      have hrp3 : rowOf w3 p = srcR a len cap t sd := by
        rw [grown_row hgrow3 (by simp; omega) (by simp [Value.ownBlock]; omega)]
        (go_simp <;> (intros; omega))
      have hfp3 : frOf w3 p = (0, 0) := by
        rw [grown_fr1 hgrow3 (by simp; omega) (by simp [Value.ownBlock]; omega)]
        (go_simp <;> (intros; omega))
      have HO3 := Lib.hid hown3
      clear hown3 hgrow3 hnil3 hne3
      go_wp2_with (at_builtin; refine wpList_append_own _ rfl _ _ 37 rfl w.heap.size 2 i0 z0 1 8 Tryz.underlying37 hi0 hz0 hs0 hb0 hc0 (by decide) _ _ _ rfl HO3.out ⟨g2, 0, none⟩ (k - m) c3 (nlV (T.drop m)) rfl (by rw [nlV_len, List.length_drop, hTl, Nat.mul_one]) ?d1 (nlV_one _) ?d3 ?d4 ?d5 ?_)
      case d1 =>
        intro j u hj
        have : ((⟨g2, 0, none⟩ : Addr).add j) = ⟨g2, j, none⟩ := by unfold Addr.add; split <;> simp_all
        have e := HC2.out j u hj
        rw [this, cell_row, hr2]
        exact e
      case d3 => unfold maxLen; omega
      case d4 => omega
      case d5 => omega
      intro v4 w4 hown4 hgrow4 hnil4
      have hne4 : v4 ≠ .slice none 0 0 := fun e => by first | exact hnil4 e | (have := (hnil4.1 e).1; cases this)
      have hk1 : m + 1 + (k - m) = k + 1 := by omega
      have hput : (nlV T).take m ++ Value.int .i64 (k : Int) :: nlV (T.drop m) = nlV (putAt T m k) := by rw [nlV_put, List.append_assoc]; rfl
      (try rw [List.append_assoc] at hown4)
      rw [hk1] at hown4
      replace hown4 : w4.ownsRow w.heap.size 2 1 v4 (k + 1) (nlV (putAt T m k)) := hput ▸ hown4
      obtain ⟨g4, c5, rfl⟩ := owns_some1 hown4 hne4
      have hg3 := (owns_cap HO3.out).2.1
      have hb4 : Below p w w4 := below_grown hb3 hgrow4 (fun q hq => by simp [Value.ownBlock] at hq; omega) (by omega)
      have hs4 : w3.heap.size ≤ w4.heap.size := hgrow4.size
      have hrp4 : rowOf w4 p = srcR a len cap t sd := by
        rw [grown_row hgrow4 (by omega) (by simp [Value.ownBlock]; omega)]
        exact hrp3
      have hfp4 : frOf w4 p = (0, 0) := by
        rw [grown_fr1 hgrow4 (by omega) (by simp [Value.ownBlock]; omega)]
        exact hfp3
      have HO4 := Lib.hid hown4
      have HT4 := Lib.hid (putAt_perm (m := m) HT.out)
      clear hown4 hgrow4 hnil4 hne4
      go_wp2
      go_roundw
      case rel => first | exact ⟨k + 1, t, sd, g4, c5, putAt T m k, by omega, by go_num, rfl, HO4.out, HT4.out, hb4, by omega, by omega, hrp4, hfp4⟩ | ((repeat (with_reducible apply Exists.intro)); refine And.intro ?_ ?_; rotate_left; (focus ((repeat' (with_reducible apply And.intro)) <;> rfl)); exact ⟨k + 1, t, sd, g4, c5, putAt T m k, by omega, by go_num, rfl, HO4.out, HT4.out, hb4, by omega, by omega, hrp4, hfp4⟩)
      case measure => simp [intOf]; omega
    · have hke : k = n := by omega
      subst hke
      go_wp2
      go_ret
      exact ⟨g, c, T, rfl, HO.out, HT.out, by repeat' (first | with_reducible exact Below.refl _ _ | with_reducible assumption | with_reducible refine Below.drew ?_ | with_reducible refine Below.drewN ?_ _ | with_reducible refine Below.alloc ?_ ?_ _ | with_reducible refine Below.setCell ?_ ?_ _ | with_reducible refine Below.setRow ?_ ?_ _ | with_reducible refine below_step (by assumption) ?_ ?_ | (show (_ : Nat) ≤ _; first | omega | (simp <;> omega)))⟩
theorem A2Order_any (a : Option Addr) (len cap n : Nat) (hn : n ≤ 100) (w : World) (hc : CodeIn w.heap.size w a len) :
    Calls Tryz.prog 8 #[.slice a len cap, .int .i64 (n : Int)] w fun e w' => ∃ (g c : Nat) (T : List Nat), e = .returned (.slice (some ⟨g, 0, none⟩) n c) ∧ n ≤ c ∧ OwnK .i64 1 w' w.heap.size (.slice (some ⟨g, 0, none⟩) n c) n (nl T) ∧ T.Perm (List.range n) ∧ Below w.heap.size w w' := by
  have HF := Lib.hid (fun w => l00From_any a len cap w)
  have HD := Lib.hid (fun p w2 hB hc hr hf hp => l06Turned_any w.heap.size p a len cap 0 0 n hn (by omega) w2 hB hc hr hf hp)
  have HC := Lib.hid hc
  clear hc
  go_enter Tryz.func8, Tryz.ntmps8
  go_wp2_with (first | (go_at_call 38; refine (HF.out _).mono ?_; rintro e w1 ⟨rfl, hr1, hf1, hs1, hb1⟩; (try simp only [World.size_alloc] at hr1 hf1 hs1); have r_hb1 := keep_rowA hb1; have f_hb1 := keep_frA hb1; have s_hb1 := hb1.size; (try simp only [World.size_alloc, World.size_setCell, setRow_size, World.size_drew, size_drewNm] at r_hb1 f_hb1 s_hb1)) | (go_at_call 40; refine (HD.out _ _ (by first | omega | (simp <;> omega)) (HC.out.below (B' := w.heap.size) (by repeat' (first | with_reducible exact Below.refl _ _ | with_reducible assumption | with_reducible refine Below.drew ?_ | with_reducible refine Below.drewN ?_ _ | with_reducible refine Below.alloc ?_ ?_ _ | with_reducible refine Below.setCell ?_ ?_ _ | with_reducible refine Below.setRow ?_ ?_ _ | with_reducible refine below_step (by assumption) ?_ ?_ | (show (_ : Nat) ≤ _; first | omega | (simp <;> omega)))) (Nat.le_refl _)) (by exact hr1) (by exact hf1) (by first | omega | (simp <;> omega))).mono ?_; rintro e w2 ⟨g, c, T, rfl, hown, hT, hb2⟩; have HDR := Lib.hid hown; clear hown; have r_hb2 := keep_rowA hb2; have f_hb2 := keep_frA hb2; have s_hb2 := hb2.size; (try simp only [World.size_alloc, World.size_setCell, setRow_size, World.size_drew, size_drewNm] at r_hb2 f_hb2 s_hb2)))
  go_ret
  have hl : T.length = n := by rw [hT.length_eq, List.length_range]
  exact ⟨g, c, T, rfl, (owns_cap HDR.out).1, (own_nlV hl HDR.out).down (by first | omega | (simp <;> omega)), hT, by repeat' (first | with_reducible exact Below.refl _ _ | with_reducible assumption | with_reducible refine Below.drew ?_ | with_reducible refine Below.drewN ?_ _ | with_reducible refine Below.alloc ?_ ?_ _ | with_reducible refine Below.setCell ?_ ?_ _ | with_reducible refine Below.setRow ?_ ?_ _ | with_reducible refine below_step (by assumption) ?_ ?_ | (show (_ : Nat) ≤ _; first | omega | (simp <;> omega)))⟩
end Go.Proofs.YtejnejplofddnaaGreatDoor
/- Small functions of FnMarks. Written by gen_fns.py. -/
namespace Go.Proofs.YtejnejplofddnaaGreatDoor
open Go.RowKit
set_option linter.unusedVariables false
set_option linter.unusedSimpArgs false
set_option maxRecDepth 100000
set_option maxHeartbeats 1000000 in
theorem l00Same_own (v1 v2 : Value) (n b1 b2 : Nat) (f : Nat → Int) (hn : n < 1099511627776) (w : World) (h1 : OwnK .i64 1 w b1 v1 n f) (h2 : OwnK .i64 1 w b2 v2 n f) :
    Calls Tryz.prog 53 #[v1, v2] w fun e w' => e = .returned (.bool true) ∧ Below w.heap.size w w' := by
  rcases Nat.eq_zero_or_pos n with hz | hp
  · subst hz
    obtain ⟨a1, c1, rfl⟩ := h1.len
    obtain ⟨a2, c2, rfl⟩ := h2.len
    clear h1 h2
    go_enter Tryz.func53, Tryz.ntmps53
    go_wp2
    go_loopw [5] (fun i wr => i = .int .i64 (0 : Nat) ∧ Below w.heap.size w wr) (fun i wr => 0)
    case atStart => exact ⟨rfl, by repeat' (first | with_reducible exact Below.refl _ _ | with_reducible assumption | with_reducible refine Below.drew ?_ | with_reducible refine Below.drewN ?_ _ | with_reducible refine Below.alloc ?_ ?_ _ | with_reducible refine Below.setCell ?_ ?_ _ | with_reducible refine Below.setRow ?_ ?_ _ | with_reducible refine below_step (by assumption) ?_ ?_ | (show (_ : Nat) ≤ _; first | omega | (simp <;> omega)))⟩
    case round =>
      obtain ⟨rfl, hb⟩ := hrel
      go_wp2
      go_ret
      exact ⟨rfl, by repeat' (first | with_reducible exact Below.refl _ _ | with_reducible assumption | with_reducible refine Below.drew ?_ | with_reducible refine Below.drewN ?_ _ | with_reducible refine Below.alloc ?_ ?_ _ | with_reducible refine Below.setCell ?_ ?_ _ | with_reducible refine Below.setRow ?_ ?_ _ | with_reducible refine below_step (by assumption) ?_ ?_ | (show (_ : Nat) ≤ _; first | omega | (simp <;> omega)))⟩
  · obtain ⟨g1, c1, rfl, -, hg1, -, -, ht1⟩ := h1.pos hp
    obtain ⟨g2, c2, rfl, -, hg2, -, -, ht2⟩ := h2.pos hp
    have HX := Lib.hid (fun j (hj : j < n) => And.intro (ht1 j (by omega)) (ht2 j (by omega)))
    clear h1 h2 ht1 ht2
    go_enter Tryz.func53, Tryz.ntmps53
    go_wp2
    go_loopw [5] (fun i wr => ∃ k : Nat, k ≤ n ∧ i = .int .i64 k ∧ Below w.heap.size w wr) (fun i wr => n - (intOf i).toNat)
    case atStart => exact ⟨0, by omega, rfl, by repeat' (first | with_reducible exact Below.refl _ _ | with_reducible assumption | with_reducible refine Below.drew ?_ | with_reducible refine Below.drewN ?_ _ | with_reducible refine Below.alloc ?_ ?_ _ | with_reducible refine Below.setCell ?_ ?_ _ | with_reducible refine Below.setRow ?_ ?_ _ | with_reducible refine below_step (by assumption) ?_ ?_ | (show (_ : Nat) ≤ _; first | omega | (simp <;> omega)))⟩
    case round =>
      obtain ⟨k, hk, rfl, hb⟩ := hrel
      have hr1 := keep_row hb hg1
      have hr2 := keep_row hb hg2
      have hw1 : g1 < wr.heap.size := Nat.lt_of_lt_of_le hg1 hb.size
      have hw2 : g2 < wr.heap.size := Nat.lt_of_lt_of_le hg2 hb.size
      by_cases hlt : k < n
      · obtain ⟨e1, e2⟩ := HX.out k hlt
        rw [← hr1] at e1
        rw [← hr2] at e2
        clear hr1 hr2
        go_wp2
        go_region
        go_wp2
        go_roundw
        case rel => first | exact ⟨k + 1, by omega, by go_num, by repeat' (first | with_reducible exact Below.refl _ _ | with_reducible assumption | with_reducible refine Below.drew ?_ | with_reducible refine Below.drewN ?_ _ | with_reducible refine Below.alloc ?_ ?_ _ | with_reducible refine Below.setCell ?_ ?_ _ | with_reducible refine Below.setRow ?_ ?_ _ | with_reducible refine below_step (by assumption) ?_ ?_ | (show (_ : Nat) ≤ _; first | omega | (simp <;> omega)))⟩ | ((repeat (with_reducible apply Exists.intro)); refine And.intro ?_ ?_; rotate_left; (focus ((repeat' (with_reducible apply And.intro)) <;> rfl)); exact ⟨k + 1, by omega, by go_num, by repeat' (first | with_reducible exact Below.refl _ _ | with_reducible assumption | with_reducible refine Below.drew ?_ | with_reducible refine Below.drewN ?_ _ | with_reducible refine Below.alloc ?_ ?_ _ | with_reducible refine Below.setCell ?_ ?_ _ | with_reducible refine Below.setRow ?_ ?_ _ | with_reducible refine below_step (by assumption) ?_ ?_ | (show (_ : Nat) ≤ _; first | omega | (simp <;> omega)))⟩)
        case measure => simp [intOf]; omega
      · clear hr1 hr2
        go_wp2
        go_ret
        exact ⟨rfl, by repeat' (first | with_reducible exact Below.refl _ _ | with_reducible assumption | with_reducible refine Below.drew ?_ | with_reducible refine Below.drewN ?_ _ | with_reducible refine Below.alloc ?_ ?_ _ | with_reducible refine Below.setCell ?_ ?_ _ | with_reducible refine Below.setRow ?_ ?_ _ | with_reducible refine below_step (by assumption) ?_ ?_ | (show (_ : Nat) ≤ _; first | omega | (simp <;> omega)))⟩
set_option maxHeartbeats 2000000 in
theorem sameSpots_own (v1 v2 : Value) (n b1 b2 : Nat) (f : Nat → Int) (hn : n < 1099511627776) (w : World) (h1 : OwnK .i8 2 w b1 v1 n f) (h2 : OwnK .i8 2 w b2 v2 n f) :
    Calls Tryz.prog 21 #[v1, v2] w fun e w' => e = .returned (.bool true) ∧ Below w.heap.size w w' := by
  rcases Nat.eq_zero_or_pos n with hz | hp
  · subst hz
    obtain ⟨a1, c1, rfl⟩ := h1.len
    obtain ⟨a2, c2, rfl⟩ := h2.len
    clear h1 h2
    go_enter Tryz.func21, Tryz.ntmps21
    go_wp2
    go_loopw [5] (fun i wr => i = .int .i64 (0 : Nat) ∧ Below w.heap.size w wr) (fun i wr => 0)
    case atStart => exact ⟨rfl, by repeat' (first | with_reducible exact Below.refl _ _ | with_reducible assumption | with_reducible refine Below.drew ?_ | with_reducible refine Below.drewN ?_ _ | with_reducible refine Below.alloc ?_ ?_ _ | with_reducible refine Below.setCell ?_ ?_ _ | with_reducible refine Below.setRow ?_ ?_ _ | with_reducible refine below_step (by assumption) ?_ ?_ | (show (_ : Nat) ≤ _; first | omega | (simp <;> omega)))⟩
    case round =>
      obtain ⟨rfl, hb⟩ := hrel
      go_wp2
      go_ret
      exact ⟨rfl, by repeat' (first | with_reducible exact Below.refl _ _ | with_reducible assumption | with_reducible refine Below.drew ?_ | with_reducible refine Below.drewN ?_ _ | with_reducible refine Below.alloc ?_ ?_ _ | with_reducible refine Below.setCell ?_ ?_ _ | with_reducible refine Below.setRow ?_ ?_ _ | with_reducible refine below_step (by assumption) ?_ ?_ | (show (_ : Nat) ≤ _; first | omega | (simp <;> omega)))⟩
  · obtain ⟨g1, c1, rfl, -, hg1, -, -, ht1⟩ := h1.pos hp
    obtain ⟨g2, c2, rfl, -, hg2, -, -, ht2⟩ := h2.pos hp
    have HX := Lib.hid (fun j (hj : j < n) => And.intro (And.intro (ht1 (j * 2) (by omega)) (ht1 (j * 2 + 1) (by omega))) (And.intro (ht2 (j * 2) (by omega)) (ht2 (j * 2 + 1) (by omega))))
    clear h1 h2 ht1 ht2
    go_enter Tryz.func21, Tryz.ntmps21
    go_wp2
    go_loopw [5] (fun i wr => ∃ k : Nat, k ≤ n ∧ i = .int .i64 k ∧ Below w.heap.size w wr) (fun i wr => n - (intOf i).toNat)
    case atStart => exact ⟨0, by omega, rfl, by repeat' (first | with_reducible exact Below.refl _ _ | with_reducible assumption | with_reducible refine Below.drew ?_ | with_reducible refine Below.drewN ?_ _ | with_reducible refine Below.alloc ?_ ?_ _ | with_reducible refine Below.setCell ?_ ?_ _ | with_reducible refine Below.setRow ?_ ?_ _ | with_reducible refine below_step (by assumption) ?_ ?_ | (show (_ : Nat) ≤ _; first | omega | (simp <;> omega)))⟩
    case round =>
      obtain ⟨k, hk, rfl, hb⟩ := hrel
      have hr1 := keep_row hb hg1
      have hr2 := keep_row hb hg2
      have hw1 : g1 < wr.heap.size := Nat.lt_of_lt_of_le hg1 hb.size
      have hw2 : g2 < wr.heap.size := Nat.lt_of_lt_of_le hg2 hb.size
      have hsz := hb.size
      by_cases hlt : k < n
      · obtain ⟨⟨e1, e2⟩, e3, e4⟩ := HX.out k hlt
        rw [← hr1] at e1 e2
        rw [← hr2] at e3 e4
        clear hr1 hr2
        generalize f (k * 2) = x at *
        generalize f (k * 2 + 1) = y at *
        go_wp2
        go_region
        go_wp2
        go_roundw
        case rel => first | exact ⟨k + 1, by omega, by go_num, by repeat' (first | with_reducible exact Below.refl _ _ | with_reducible assumption | with_reducible refine Below.drew ?_ | with_reducible refine Below.drewN ?_ _ | with_reducible refine Below.alloc ?_ ?_ _ | with_reducible refine Below.setCell ?_ ?_ _ | with_reducible refine Below.setRow ?_ ?_ _ | with_reducible refine below_step (by assumption) ?_ ?_ | (show (_ : Nat) ≤ _; first | omega | (simp <;> omega)))⟩ | ((repeat (with_reducible apply Exists.intro)); refine And.intro ?_ ?_; rotate_left; (focus ((repeat' (with_reducible apply And.intro)) <;> rfl)); exact ⟨k + 1, by omega, by go_num, by repeat' (first | with_reducible exact Below.refl _ _ | with_reducible assumption | with_reducible refine Below.drew ?_ | with_reducible refine Below.drewN ?_ _ | with_reducible refine Below.alloc ?_ ?_ _ | with_reducible refine Below.setCell ?_ ?_ _ | with_reducible refine Below.setRow ?_ ?_ _ | with_reducible refine below_step (by assumption) ?_ ?_ | (show (_ : Nat) ≤ _; first | omega | (simp <;> omega)))⟩)
        case measure => simp [intOf]; omega
      · clear hr1 hr2
        go_wp2
        go_ret
        exact ⟨rfl, by repeat' (first | with_reducible exact Below.refl _ _ | with_reducible assumption | with_reducible refine Below.drew ?_ | with_reducible refine Below.drewN ?_ _ | with_reducible refine Below.alloc ?_ ?_ _ | with_reducible refine Below.setCell ?_ ?_ _ | with_reducible refine Below.setRow ?_ ?_ _ | with_reducible refine below_step (by assumption) ?_ ?_ | (show (_ : Nat) ≤ _; first | omega | (simp <;> omega)))⟩
theorem A2Same_own (v1 v2 : Value) (n b1 b2 : Nat) (f : Nat → Int) (hn : n < 1099511627776) (w : World) (h1 : OwnK .i64 1 w b1 v1 n f) (h2 : OwnK .i64 1 w b2 v2 n f) :
    Calls Tryz.prog 17 #[v1, v2] w fun e w' => e = .returned (.bool true) ∧ Below w.heap.size w w' := by
  have HS := Lib.hid (l00Same_own v1 v2 n b1 b2 f hn w h1 h2)
  obtain ⟨a1, c1, rfl⟩ := h1.len
  obtain ⟨a2, c2, rfl⟩ := h2.len
  clear h1 h2
  go_enter Tryz.func17, Tryz.ntmps17
  go_wp2_with (go_at_call 53; refine HS.out.mono ?_; rintro e w1 ⟨rfl, hb1⟩)
  go_ret
  exact ⟨rfl, hb1⟩
theorem A2SameRows_any (v1 v2 : Value) (b1 b2 : Nat) (A B : List (List UInt8)) (hA : A.length ≤ 1048576) (hB : B.length ≤ 1048576) (w : World) (h1 : OwnT w b1 v1 A) (h2 : OwnT w b2 v2 B) :
    Calls Tryz.prog 16 #[v1, v2] w fun e w' => e = .returned (.bool (eqL A B)) ∧ Below w.heap.size w w' := by
  have HS := Lib.hid (l06Same_any v1 v2 b1 b2 A B hA hB w h1 h2)
  obtain ⟨a1, c1, rfl⟩ := h1.len
  obtain ⟨a2, c2, rfl⟩ := h2.len
  clear h1 h2
  go_enter Tryz.func16, Tryz.ntmps16
  go_wp2_with (go_at_call 52; refine HS.out.mono ?_; rintro e w1 ⟨rfl, hb1⟩)
  go_ret
  exact ⟨rfl, hb1⟩
theorem a2Long_any (a b : Option Addr) (n m c d : Nat) (w : World) :
    Calls Tryz.prog 5 #[.slice a n c, .slice b m d] w fun e w' => e = .returned (.bool (decide (3000 < n) || decide (3000 < m))) ∧ Below w.heap.size w w' := by
  by_cases h1 : 3000 < n
  · have h1i : (3000 : Int) < (n : Int) := by omega
    rw [decide_eq_true h1]
    go_enter Tryz.func5, Tryz.ntmps5
    go_wp2
    go_ret
    exact ⟨by simp, by repeat' (first | with_reducible exact Below.refl _ _ | with_reducible assumption | with_reducible refine Below.drew ?_ | with_reducible refine Below.drewN ?_ _ | with_reducible refine Below.alloc ?_ ?_ _ | with_reducible refine Below.setCell ?_ ?_ _ | with_reducible refine Below.setRow ?_ ?_ _ | with_reducible refine below_step (by assumption) ?_ ?_ | (show (_ : Nat) ≤ _; first | omega | (simp <;> omega)))⟩
  · have h1i : ¬ (3000 : Int) < (n : Int) := by omega
    rw [decide_eq_false h1]
    by_cases h2 : 3000 < m
    · have h2i : (3000 : Int) < (m : Int) := by omega
      rw [decide_eq_true h2]
      go_enter Tryz.func5, Tryz.ntmps5
      go_wp2
      go_ret
      exact ⟨by simp, by repeat' (first | with_reducible exact Below.refl _ _ | with_reducible assumption | with_reducible refine Below.drew ?_ | with_reducible refine Below.drewN ?_ _ | with_reducible refine Below.alloc ?_ ?_ _ | with_reducible refine Below.setCell ?_ ?_ _ | with_reducible refine Below.setRow ?_ ?_ _ | with_reducible refine below_step (by assumption) ?_ ?_ | (show (_ : Nat) ≤ _; first | omega | (simp <;> omega)))⟩
    · have h2i : ¬ (3000 : Int) < (m : Int) := by omega
      rw [decide_eq_false h2]
      go_enter Tryz.func5, Tryz.ntmps5
      go_wp2
      go_ret
      exact ⟨by simp, by repeat' (first | with_reducible exact Below.refl _ _ | with_reducible assumption | with_reducible refine Below.drew ?_ | with_reducible refine Below.drewN ?_ _ | with_reducible refine Below.alloc ?_ ?_ _ | with_reducible refine Below.setCell ?_ ?_ _ | with_reducible refine Below.setRow ?_ ?_ _ | with_reducible refine below_step (by assumption) ?_ ?_ | (show (_ : Nat) ≤ _; first | omega | (simp <;> omega)))⟩
theorem A2Waxed_any (c : Nat → Int) (hfc : FitSheet c) (x y : Nat) (hx : x < 8) (hy : y < 8) (w : World) :
    Calls Tryz.prog 25 #[.agg (kc sk 266 c), .agg #[.int .i8 (x : Int), .int .i8 (y : Int)]] w fun e w' => e = .returned (.bool (waxS c x y)) ∧ Below w.heap.size w w' := by
  have HX := Lib.hid (fun p w h1 h2 => l01Waxed_any p c hfc x y hx hy w h1 h2)
  go_enter Tryz.func25, Tryz.ntmps25
  go_wp2_with (go_at_call 74; refine (HX.out w.heap.size _ (by (go_simp <;> (intros; omega))) (by first | omega | (simp <;> omega))).mono ?_; rintro e w1 ⟨rfl, hb1⟩; have r1 := keep_rowA hb1; have f1 := keep_frA hb1; have s1 := hb1.size; (try simp only [World.size_alloc, World.size_setCell, setRow_size, World.size_drew, size_drewNm] at r1 f1 s1))
  go_ret
  exact ⟨rfl, by repeat' (first | with_reducible exact Below.refl _ _ | with_reducible assumption | with_reducible refine Below.drew ?_ | with_reducible refine Below.drewN ?_ _ | with_reducible refine Below.alloc ?_ ?_ _ | with_reducible refine Below.setCell ?_ ?_ _ | with_reducible refine Below.setRow ?_ ?_ _ | with_reducible refine below_step (by assumption) ?_ ?_ | (show (_ : Nat) ≤ _; first | omega | (simp <;> omega)))⟩
set_option maxHeartbeats 4000000 in
theorem A2HasSpot_any (v : Value) (n b : Nat) (f : Nat → Int) (hn : n ≤ 64) (hf : ∀ j, j < n → ∃ a b : Nat, a < 8 ∧ b < 8 ∧ f (j * 2) = a ∧ f (j * 2 + 1) = b) (x y : Nat) (hx : x < 8) (hy : y < 8) (w : World) (h : OwnK .i8 2 w b v n f) :
    Calls Tryz.prog 24 #[v, .agg #[.int .i8 (x : Int), .int .i8 (y : Int)]] w fun e w' => e = .returned (.bool (snB f n (y * 8 + x))) ∧ Below w.heap.size w w' := by
  have HH := Lib.hid h
  have HF := Lib.hid hf
  obtain ⟨a, cap, rfl⟩ := h.len
  have HN := Lib.hid (fun k q => snB_next f k q)
  clear h hf
  go_enter Tryz.func24, Tryz.ntmps24
  go_wp2
  go_loopw [5] (fun z wr => ∃ k : Nat, k ≤ n ∧ z = .int .i64 k ∧ Below w.heap.size w wr ∧ w.heap.size + 1 ≤ wr.heap.size ∧ rowOf wr w.heap.size = #[.int .i8 (x : Int), .int .i8 (y : Int)] ∧ snB f k (y * 8 + x) = false) (fun z wr => n + 1 - (intOf z).toNat)
  case atStart => exact ⟨0, by omega, rfl, by repeat' (first | with_reducible exact Below.refl _ _ | with_reducible assumption | with_reducible refine Below.drew ?_ | with_reducible refine Below.drewN ?_ _ | with_reducible refine Below.alloc ?_ ?_ _ | with_reducible refine Below.setCell ?_ ?_ _ | with_reducible refine Below.setRow ?_ ?_ _ | with_reducible refine below_step (by assumption) ?_ ?_ | (show (_ : Nat) ≤ _; first | omega | (simp <;> omega))), by simp, by (go_simp <;> (intros; omega)), rfl⟩
  case round =>
    obtain ⟨k, hk, rfl, hb, hsz, hrb, hno⟩ := hrel
    have HNO := Lib.hid hno
    clear hno
    by_cases hlt : k < n
    · obtain ⟨g, cap', hv, -, hg, -, hRs, hc⟩ := HH.out.pos (by omega)
      simp only [Value.slice.injEq] at hv
      obtain ⟨rfl, -, rfl⟩ := hv
      obtain ⟨xa, ya, hxa, hya, fx, fy⟩ := HF.out k hlt
      have e1 := hc (k * 2) (by omega)
      have e2 := hc (k * 2 + 1) (by omega)
      rw [fx, ← keep_row hb hg] at e1
      rw [fy, ← keep_row hb hg] at e2
      have hgw : g < wr.heap.size := by omega
      have hlt2 : (k : Int) < (n : Int) := by omega
      have hw1 : IntKind.i64.wrap ((k : Int) + 1) = ((k + 1 : Nat) : Int) := by rw [IntWalk.i64_in _ (by omega)]; rfl
      obtain ⟨R, hR⟩ : ∃ R, rowOf wr g = R := ⟨_, rfl⟩
      rw [hR] at e1 e2
      clear hc
      by_cases hq : xa = x ∧ ya = y
      · obtain ⟨rfl, rfl⟩ := hq
        have HV := Lib.hid (show snB f n (ya * 8 + xa) = true by
          unfold snB
          rw [List.any_eq_true]
          exact ⟨k, List.mem_range.2 hlt, by rw [fx, fy]; simp⟩)
        clear fx fy
        go_wp2
        go_region
        go_wp2
        go_ret
        exact ⟨by rw [HV.out]; rfl, by repeat' (first | with_reducible exact Below.refl _ _ | with_reducible assumption | with_reducible refine Below.drew ?_ | with_reducible refine Below.drewN ?_ _ | with_reducible refine Below.alloc ?_ ?_ _ | with_reducible refine Below.setCell ?_ ?_ _ | with_reducible refine Below.setRow ?_ ?_ _ | with_reducible refine below_step (by assumption) ?_ ?_ | (show (_ : Nat) ≤ _; first | omega | (simp <;> omega)))⟩
      · have HV := Lib.hid (show snB f (k + 1) (y * 8 + x) = false by
          rw [HN.out, HNO.out, fx, fy, Bool.false_or, beq_eq_false_iff_ne]
          intro e
          simp only [Int.toNat_natCast] at e
          exact hq ⟨by omega, by omega⟩)
        clear fx fy
        by_cases hxx : xa = x
        · subst hxx
          have hyy : ((ya : Int) == (y : Int)) = false := by rw [beq_eq_false_iff_ne]; omega
          have hyn : ¬ (ya : Int) = (y : Int) := by omega
          go_wp2
          go_region
          go_wp2
          go_roundw
          case rel => first | exact ⟨k + 1, by omega, by go_num, by repeat' (first | with_reducible exact Below.refl _ _ | with_reducible assumption | with_reducible refine Below.drew ?_ | with_reducible refine Below.drewN ?_ _ | with_reducible refine Below.alloc ?_ ?_ _ | with_reducible refine Below.setCell ?_ ?_ _ | with_reducible refine Below.setRow ?_ ?_ _ | with_reducible refine below_step (by assumption) ?_ ?_ | (show (_ : Nat) ≤ _; first | omega | (simp <;> omega))), by first | omega | (simp <;> omega), by (go_simp <;> (intros; omega)), HV.out⟩ | ((repeat (with_reducible apply Exists.intro)); refine And.intro ?_ ?_; rotate_left; (focus ((repeat' (with_reducible apply And.intro)) <;> rfl)); exact ⟨k + 1, by omega, by go_num, by repeat' (first | with_reducible exact Below.refl _ _ | with_reducible assumption | with_reducible refine Below.drew ?_ | with_reducible refine Below.drewN ?_ _ | with_reducible refine Below.alloc ?_ ?_ _ | with_reducible refine Below.setCell ?_ ?_ _ | with_reducible refine Below.setRow ?_ ?_ _ | with_reducible refine below_step (by assumption) ?_ ?_ | (show (_ : Nat) ≤ _; first | omega | (simp <;> omega))), by first | omega | (simp <;> omega), by (go_simp <;> (intros; omega)), HV.out⟩)
          case measure => simp [intOf]; omega
        · have hxx2 : ((xa : Int) == (x : Int)) = false := by rw [beq_eq_false_iff_ne]; omega
          have hxn : ¬ (xa : Int) = (x : Int) := by omega
          go_wp2
          go_region
          go_wp2
          go_roundw
          case rel => first | exact ⟨k + 1, by omega, by go_num, by repeat' (first | with_reducible exact Below.refl _ _ | with_reducible assumption | with_reducible refine Below.drew ?_ | with_reducible refine Below.drewN ?_ _ | with_reducible refine Below.alloc ?_ ?_ _ | with_reducible refine Below.setCell ?_ ?_ _ | with_reducible refine Below.setRow ?_ ?_ _ | with_reducible refine below_step (by assumption) ?_ ?_ | (show (_ : Nat) ≤ _; first | omega | (simp <;> omega))), by first | omega | (simp <;> omega), by (go_simp <;> (intros; omega)), HV.out⟩ | ((repeat (with_reducible apply Exists.intro)); refine And.intro ?_ ?_; rotate_left; (focus ((repeat' (with_reducible apply And.intro)) <;> rfl)); exact ⟨k + 1, by omega, by go_num, by repeat' (first | with_reducible exact Below.refl _ _ | with_reducible assumption | with_reducible refine Below.drew ?_ | with_reducible refine Below.drewN ?_ _ | with_reducible refine Below.alloc ?_ ?_ _ | with_reducible refine Below.setCell ?_ ?_ _ | with_reducible refine Below.setRow ?_ ?_ _ | with_reducible refine below_step (by assumption) ?_ ?_ | (show (_ : Nat) ≤ _; first | omega | (simp <;> omega))), by first | omega | (simp <;> omega), by (go_simp <;> (intros; omega)), HV.out⟩)
          case measure => simp [intOf]; omega
    · have hke : k = n := by omega
      subst hke
      go_wp2
      go_ret
      exact ⟨by rw [HNO.out]; rfl, by repeat' (first | with_reducible exact Below.refl _ _ | with_reducible assumption | with_reducible refine Below.drew ?_ | with_reducible refine Below.drewN ?_ _ | with_reducible refine Below.alloc ?_ ?_ _ | with_reducible refine Below.setCell ?_ ?_ _ | with_reducible refine Below.setRow ?_ ?_ _ | with_reducible refine below_step (by assumption) ?_ ?_ | (show (_ : Nat) ≤ _; first | omega | (simp <;> omega)))⟩
end Go.Proofs.YtejnejplofddnaaGreatDoor
