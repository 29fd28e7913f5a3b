/- Marks without one of them: copies, the library's Delete. -/
import Derived.Test.YtifhffnppgkjgaaGreatDoorGqC
import Derived.Test.YtifhffnppgkjgaaGreatDoorGqD
import Derived.StillTailTactics
import Derived.Deep.QuietTactic
namespace Go.Proofs.YtifhffnppgkjgaaGreatDoor
open Go.RowKit
set_option linter.unusedVariables false
set_option linter.unusedSimpArgs false
set_option maxRecDepth 100000
/-- The cells of marks, one behind the other. -/
def mkL (F : Nat → Mk) (n : Nat) : List Value := (List.range (n * 2)).map fun t => mkV F (t / 2) (t % 2)
theorem mkL_len (F : Nat → Mk) (n : Nat) : (mkL F n).length = n * 2 := by unfold mkL; simp
theorem mkL_at {F : Nat → Mk} {n t : Nat} (h : t < n * 2) : (mkL F n)[t]? = some (mkV F (t / 2) (t % 2)) := by unfold mkL; rw [List.getElem?_map, List.getElem?_range h]; rfl
theorem mkL_get {F : Nat → Mk} {n t : Nat} {u : Value} (h : (mkL F n)[t]? = some u) : t < n * 2 ∧ u = mkV F (t / 2) (t % 2) := by
  have ht : t < n * 2 := by
    have := (List.getElem?_eq_some_iff.1 h).1
    rwa [mkL_len] at this
  rw [mkL_at ht] at h
  exact ⟨ht, (Option.some.inj h).symm⟩
/-- All but the mark i. -/
def skF (F : Nat → Mk) (i k : Nat) : Mk := if k < i then F k else F (k + 1)
theorem sk_cat {F : Nat → Mk} {n i : Nat} (hi : i < n) : ∀ t, t < (n - 1) * 2 → (mkL F i ++ (mkL F n).drop ((i + 1) * 2))[t]? = some (mkV (skF F i) (t / 2) (t % 2)) := fun t ht => by
  rw [List.getElem?_append, mkL_len]
  by_cases h : t < i * 2
  · rw [if_pos h, mkL_at h]
    unfold mkV skF
    rw [if_pos (show t / 2 < i by omega)]
  · rw [if_neg h, List.getElem?_drop, mkL_at (by omega)]
    unfold mkV skF
    have h1 : ((i + 1) * 2 + (t - i * 2)) / 2 = t / 2 + 1 := by omega
    have h2 : ((i + 1) * 2 + (t - i * 2)) % 2 = t % 2 := by omega
    rw [h1, h2, if_neg (show ¬ t / 2 < i by omega)]
theorem mk_one {w : World} {b n : Nat} {v : Value} {F : Nat → Mk} (h : OwnM w b v n F) : ∀ u ∈ mkL F n, u.oneCell' = true := by
  intro u hu
  unfold mkL at hu
  obtain ⟨t, ht, rfl⟩ := List.mem_map.1 hu
  have ht := List.mem_range.1 ht
  unfold mkV
  split
  · rfl
  · obtain ⟨a, c, hv⟩ := (h.2 (t / 2) (by omega)).len
    rw [hv]; rfl
theorem mk_cells {w : World} {b n g cap : Nat} {F : Nat → Mk} (h : OwnM w b (.slice (some ⟨g, 0, none⟩) n cap) n F) (h0 : 0 < n) : g < w.heap.size ∧ n * 2 ≤ (rowOf w g).size ∧ frOf w g = (0, 0) ∧ ∀ t, t < n * 2 → (rowOf w g)[t]? = some (mkV F (t / 2) (t % 2)) := by
  obtain ⟨g', cap', hv, -, hg, hfr, hs, hc⟩ := h.1.pos h0
  simp only [Value.slice.injEq, Option.some.injEq, Addr.mk.injEq] at hv
  obtain ⟨⟨rfl, -, -⟩, -, rfl⟩ := hv
  refine ⟨hg, hs, hfr, fun t ht => ?_⟩
  have := hc (t / 2) (by omega) (t % 2) (Nat.mod_lt _ (by omega))
  rwa [show t / 2 * 2 + t % 2 = t by omega] at this
set_option maxHeartbeats 2000000 in
theorem clone_marks (v : Value) (n b : Nat) (F : Nat → Mk) (h0 : 0 < n) (hn : n ≤ 1048576) (w : World) (h : OwnM w b v n F) :
    Calls Tryz.prog 46 #[v] w fun e w' => ∃ v', e = .returned v' ∧ w'.ownsRow w.heap.size 68 2 v' n (mkL F n) ∧ Below w.heap.size w w' := by
  obtain ⟨i0, z0, hi0, hz0, hs0, hb0, hc0⟩ := mark_info
  have heq := fun a m c w => Lib.run_eql_slice_nil (P := Tryz.prog) w 40 68 a m c 0 0 Tryz.underlying40
  have hone := Lib.hid (mk_one h)
  have hm := h
  obtain ⟨g, cap, rfl, -⟩ := h.1.pos h0
  obtain ⟨hg, hs, hfr, hc⟩ := mk_cells hm h0
  have HC := Lib.hid hc
  clear h hm hc
  go_enter Tryz.func46, Tryz.ntmps46
  go_wp2_with (at_builtin; refine wpList_append_own _ rfl _ _ 40 rfl w.heap.size 68 i0 z0 2 32 Tryz.underlying40 hi0 hz0 hs0 hb0 hc0 (by decide) _ _ _ rfl (owns_emptyW w _ 2) ⟨g, 0, none⟩ n cap (mkL F n) rfl (mkL_len F n) ?c1 hone.out ?c3 ?c4 ?c5 ?_)
  case c1 =>
    intro j u hj
    obtain ⟨hjn, rfl⟩ := mkL_get hj
    have e := HC.out j hjn
    have : ((⟨g, 0, none⟩ : Addr).add j) = ⟨g, j, none⟩ := by unfold Addr.add; split <;> simp_all
    rw [this, cell_row]
    go_simp
  case c3 => unfold maxLen; omega
  case c4 => omega
  case c5 => simp
  intro v' w1 hown' hgrow _
  have hbg : Below w.heap.size w w1 := below_grown (Below.alloc (Below.refl _ _) (Nat.le_refl _) _) hgrow (fun k hk => by simp [Value.ownBlock] at hk; omega) (by simp)
  have HB := Lib.hid hbg
  have HW := Lib.hid hown'
  clear hbg hown' hgrow
  go_wp2
  go_ret
  exact ⟨_, rfl, HW.out, HB.out⟩
theorem run_sliceBound_ok {P : Program} {w : World} (k : IntKind) (i : Int) (y : Nat) (code : BoundsCode) (h : 0 ≤ i ∧ i ≤ (y : Int)) : (Instr.sliceBound (.int k i) y code).run P w = .ok i.toNat w := by
  simp [Instr.sliceBound, asIntOf, h, go_sem]
theorem run_slice_at {P : Program} {W : World} (t e : TypeId) (i0 : TypeInfo) (ht : P.underlying t = some (.slice e)) (hi : P.info? e = some i0) (a : Option Addr) (len cap : Nat) (low high max : Option Value) (l h m : Nat) (hb : (Instr.sliceBounds true len cap low high max).run P W = .ok (l, h, m) W) : (Instr.slice t (.slice a len cap) low high max).run P W = .ok (.slice (if m = l then a else a.map (·.add (l * i0.size))) (h - l) (m - l)) W := by
  simp only [Instr.slice, Sem.run_bind, run_underlying ht, Result.andThen_ok, hb, sizeOf, typeInfo, Sem.run_pure]
  simp [hi, go_sem]
theorem bounds_high {P : Program} {W : World} (len cap : Nat) (x : Int) (h : 0 ≤ x ∧ x ≤ (cap : Int)) : (Instr.sliceBounds true len cap none (some (.int .i64 x)) none).run P W = .ok (0, x.toNat, cap) W := by
  simp only [Instr.sliceBounds, Sem.run_bind, run_sliceBound_ok _ _ _ _ h, Result.andThen_ok, Sem.run_pure]
theorem bounds_low {P : Program} {W : World} (len cap : Nat) (x : Int) (h : 0 ≤ x ∧ x ≤ (len : Int)) : (Instr.sliceBounds true len cap (some (.int .i64 x)) none none).run P W = .ok (x.toNat, len, cap) W := by
  simp only [Instr.sliceBounds, Sem.run_bind, run_sliceBound_ok _ _ _ _ h, Result.andThen_ok, Sem.run_pure]
theorem bounds_two {P : Program} {W : World} (len cap : Nat) (x y : Int) (h : 0 ≤ y ∧ y ≤ (cap : Int)) (h2 : 0 ≤ x ∧ x ≤ y) : (Instr.sliceBounds true len cap (some (.int .i64 x)) (some (.int .i64 y)) none).run P W = .ok (x.toNat, y.toNat, cap) W := by
  have h3 : 0 ≤ x ∧ x ≤ ((y.toNat : Nat) : Int) := by omega
  simp only [Instr.sliceBounds, Sem.run_bind, run_sliceBound_ok _ _ _ _ h, run_sliceBound_ok _ _ _ _ h3, Result.andThen_ok, Sem.run_pure]
theorem bounds_three {P : Program} {W : World} (len cap : Nat) (x y z : Int) (h : 0 ≤ z ∧ z ≤ (cap : Int)) (h2 : 0 ≤ y ∧ y ≤ z) (h3 : 0 ≤ x ∧ x ≤ y) : (Instr.sliceBounds true len cap (some (.int .i64 x)) (some (.int .i64 y)) (some (.int .i64 z))).run P W = .ok (x.toNat, y.toNat, z.toNat) W := by
  have h4 : 0 ≤ y ∧ y ≤ ((z.toNat : Nat) : Int) := by omega
  have h5 : 0 ≤ x ∧ x ≤ ((y.toNat : Nat) : Int) := by omega
  simp only [Instr.sliceBounds, Sem.run_bind, run_sliceBound_ok _ _ _ _ h, run_sliceBound_ok _ _ _ _ h4, run_sliceBound_ok _ _ _ _ h5, Result.andThen_ok, Sem.run_pure]
theorem addr_add0 (g k : Nat) : (⟨g, 0, none⟩ : Addr).add k = ⟨g, k, none⟩ := by unfold Addr.add; split <;> simp_all
theorem mark_zero : ∃ z, (∀ w, (zeroValue 68).run Tryz.prog w = .ok z w) ∧ z.cells.size = 2 ∧ ∀ (n : Nat), ∀ u ∈ (Builtin.zeroCells z.cells n).toList, u.oneCell' = true := by
  have h : (match Tryz.prog.info? 68 with | some i => (match i.zero with | some z => z.cells.size == 2 && z.cells.all (·.oneCell') | none => false) | none => false) = true := by kernel_rfl
  split at h
  · rename_i i hi
    split at h
    · rename_i z hz
      simp only [Bool.and_eq_true, beq_iff_eq] at h
      refine ⟨z, fun w => by simp [zeroValue, typeInfo, hi, hz], h.1, fun n u hu => ?_⟩
      simp only [Builtin.zeroCells, Array.toList_map, List.mem_map] at hu
      obtain ⟨i, -, rfl⟩ := hu
      have hlt : i % z.cells.size < z.cells.size := Nat.mod_lt _ (by omega)
      rw [getElem!_pos z.cells _ hlt]
      exact (Array.all_eq_true.1 h.2) _ hlt
    · cases h
  · cases h
set_option maxHeartbeats 4000000 in
theorem delete_marks (g n i cap base : Nat) (F : Nat → Mk) (hi : i < n) (hn : n ≤ 64) (w : World) (hown : w.ownsRow base 68 2 (.slice (some ⟨g, 0, none⟩) n cap) n (mkL F n)) (hone : ∀ u ∈ mkL F n, u.oneCell' = true) :
    Calls Tryz.prog 45 #[.slice (some ⟨g, 0, none⟩) n cap, .int .i64 (i : Int), .int .i64 ((i : Int) + 1)] w fun e w' => e = .returned (.slice (some ⟨g, 0, none⟩) (n - 1) cap) ∧ OwnV 2 w' base (.slice (some ⟨g, 0, none⟩) (n - 1) cap) (n - 1) (mkV (skF F i)) ∧ Below base w w' := by
  obtain ⟨i0, z0, hi0, hz0, hs0, hb0, hc0⟩ := mark_info
  obtain ⟨z, hz1, hz2, hz3⟩ := mark_zero
  obtain ⟨hbg, hg, hncap, hcm, hrs, hfr, hgh, hcs⟩ := owns_cellsV hown
  have hcm2 : cap ≤ 9223372036854775807 := by unfold maxLen at hcm; omega
  obtain ⟨N, rfl⟩ : ∃ N, n = N + 1 := ⟨n - 1, by omega⟩
  obtain ⟨R, hR⟩ : ∃ R, rowOf w g = R := ⟨_, rfl⟩
  rw [hR] at hrs hgh hcs
  have hw1 : IntKind.i64.wrap ((i : Int) + 1) = (i : Int) + 1 := IntWalk.i64_in _ (by omega)
  have hnews : ((mkL F (N + 1)).drop ((i + 1) * 2)).length = (N - i) * 2 := by rw [List.length_drop, mkL_len]; omega
  obtain ⟨C, hC⟩ : ∃ C : Array Value, C = (R.toList.take (i * 2) ++ (mkL F (N + 1)).drop ((i + 1) * 2) ++ R.toList.drop (i * 2 + ((mkL F (N + 1)).drop ((i + 1) * 2)).length)).toArray := ⟨_, rfl⟩
  have hRl : R.toList.length = cap * 2 := by rw [Array.length_toList]; exact hrs
  have hCs : C.size = cap * 2 := by
    rw [hC, List.size_toArray, List.length_append, List.length_append, hnews, List.length_take, List.length_drop, hRl]; omega
  have hRt : R.toList.take (i * 2) = mkL F i := by
    refine List.ext_getElem? (fun t => ?_)
    rw [List.getElem?_take]
    by_cases h : t < i * 2
    · rw [if_pos h, Array.getElem?_toList, hcs t (by omega), mkL_at (by omega), mkL_at h]
    · rw [if_neg h, List.getElem?_eq_none (by rw [mkL_len]; omega)]
  have hCt : ∀ t, t < N * 2 → C[t]? = some (mkV (skF F i) (t / 2) (t % 2)) := fun t ht => by
    have h1 := sk_cat (F := F) (n := N + 1) hi t (by omega)
    rw [hC, List.getElem?_toArray, hRt, List.getElem?_append_left (by rw [List.length_append, mkL_len, hnews]; omega)]
    exact h1
  have HAP : ∀ (W : World) (ad : Addr) (c : Nat), W.heap[g]? = some (.cells R 68 (0, 0)) → (ad = ⟨g, (i + 1) * 2, none⟩ ∨ N - i = 0) → ∀ ty, ∃ W1, (Builtin.append_ #[40, 40] ty #[.slice (some ⟨g, 0, none⟩) i cap, .slice (some ad) (N - i) c]).run Tryz.prog W = .ok (.slice (some ⟨g, 0, none⟩) N cap) W1 ∧ rowOf W1 g = C ∧ frOf W1 g = (0, 0) ∧ W1.heap.size = W.heap.size ∧ Below base W W1 := fun W ad c hW had ty => by
    have hr := run_append_room (P := Tryz.prog) W 40 ty 68 i0 Tryz.underlying40 hi0 g i cap R hW ad (N - i) c ((mkL F (N + 1)).drop ((i + 1) * 2)) (by rw [hs0]; exact hnews) (fun j u hj => by
        rcases had with rfl | h0
        · rw [List.getElem?_drop] at hj
          obtain ⟨hjl, rfl⟩ := mkL_get hj
          have : ((⟨g, (i + 1) * 2, none⟩ : Addr).add j) = ⟨g, (i + 1) * 2 + j, none⟩ := by unfold Addr.add; split <;> simp_all
          rw [this, cell_row]
          have hrw : rowOf W g = R := by simp [rowOf, hW, objRow]
          rw [hrw, hcs _ hjl, mkL_at hjl]
        · rw [List.getElem?_eq_none (by rw [hnews]; omega)] at hj
          cases hj) (fun u hu => hone u (List.mem_of_mem_drop hu)) (by omega) (by rw [hs0, hnews]; omega)
    rw [hs0, ← hC, show i + (N - i) = N by omega] at hr
    have hgW : g < W.heap.size := (Array.getElem?_eq_some_iff.1 hW).1
    have hfrW : frOf W g = (0, 0) := by simp [frOf, hW, objFr]
    exact ⟨_, hr, by rw [row_setRow _ _ _ _ (by rw [show rowOf W g = R by simp [rowOf, hW, objRow]]; omega), if_pos rfl], by rw [fr_setRow]; exact hfrW, by simp, Below.setRow (Below.refl _ _) hbg _⟩
  have HAPH := Lib.hid HAP
  have HCT := Lib.hid hCt
  have hzs : (Builtin.zeroCells z.cells (N + 1 - N)).size = 2 := by rw [size_zeroCells, hz2]; omega
  have HCL := Lib.hid (fun (W : World) (h1 : rowOf W g = C) (h2 : frOf W g = (0, 0)) ty => run_clear_wide W _ _ ty z 2 Tryz.underlying40 hz1 hz2 hz3 g (N * 2) (N + 1 - N) (cap - N) (by omega) (by rw [h1]; omega) h2)
  generalize Builtin.zeroCells z.cells (N + 1 - N) = zc at *
  clear HAP hCt hRt hC hRl hnews hcs hone hz1 hz3 hz0 hb0 hc0 hown
  have hi2 : (i : Int) < ((N + 1 : Nat) : Int) := by omega
  have hne1 : ((i : Int) == (i : Int) + 1) = false := by rw [beq_eq_false_iff_ne]; omega
  have hne2 : ¬ (i : Int) = (i : Int) + 1 := by omega
  have e3 : ∀ W : World, (Instr.slice 40 (.slice (some ⟨g, 0, none⟩) (N + 1) cap) (some (.int .i64 (i : Int))) (some (.int .i64 ((i : Int) + 1))) (some (.int .i64 ((N : Int) + 1)))).run Tryz.prog W = .ok (.slice (some ⟨g, i * 2, none⟩) 1 (N + 1 - i)) W := fun W => by
    rw [run_slice_at _ _ i0 Tryz.underlying40 hi0 _ _ _ _ _ _ _ _ _ (bounds_three (N + 1) cap (i : Int) ((i : Int) + 1) ((N : Int) + 1) (by omega) (by omega) (by omega)), if_neg (by omega), hs0]
    simp only [Option.map_some, addr_add0]
    rw [show ((i : Int) + 1).toNat - (i : Int).toNat = 1 by omega, show ((N : Int) + 1).toNat - (i : Int).toNat = N + 1 - i by omega, Int.toNat_natCast]
  have e1 : ∀ W : World, (Instr.slice 40 (.slice (some ⟨g, 0, none⟩) (N + 1) cap) none (some (.int .i64 (i : Int))) none).run Tryz.prog W = .ok (.slice (some ⟨g, 0, none⟩) i cap) W := fun W => by
    rw [run_slice_at _ _ i0 Tryz.underlying40 hi0 _ _ _ _ _ _ _ _ _ (bounds_high (N + 1) cap (i : Int) (by omega)), if_neg (by omega)]
    simp only [Option.map_some, addr_add0]
    rw [Nat.zero_mul, Nat.sub_zero, Nat.sub_zero, Int.toNat_natCast]
  obtain ⟨ad, c2, had, e2⟩ : ∃ ad c2, (ad = (⟨g, (i + 1) * 2, none⟩ : Addr) ∨ N - i = 0) ∧ ∀ W : World, (Instr.slice 40 (.slice (some ⟨g, 0, none⟩) (N + 1) cap) (some (.int .i64 ((i : Int) + 1))) none none).run Tryz.prog W = .ok (.slice (some ad) (N - i) c2) W := by
    by_cases hic : cap = i + 1
    · refine ⟨⟨g, 0, none⟩, cap - (i + 1), .inr (by omega), fun W => ?_⟩
      rw [run_slice_at _ _ i0 Tryz.underlying40 hi0 _ _ _ _ _ _ _ _ _ (bounds_low (N + 1) cap ((i : Int) + 1) (by omega)), if_pos (by omega)]
      rw [show N + 1 - ((i : Int) + 1).toNat = N - i by omega, show cap - ((i : Int) + 1).toNat = cap - (i + 1) by omega]
    · refine ⟨⟨g, (i + 1) * 2, none⟩, cap - (i + 1), .inl rfl, fun W => ?_⟩
      rw [run_slice_at _ _ i0 Tryz.underlying40 hi0 _ _ _ _ _ _ _ _ _ (bounds_low (N + 1) cap ((i : Int) + 1) (by omega)), if_neg (by omega), hs0]
      simp only [Option.map_some, addr_add0]
      rw [show N + 1 - ((i : Int) + 1).toNat = N - i by omega, show cap - ((i : Int) + 1).toNat = cap - (i + 1) by omega, show ((i : Int) + 1).toNat = i + 1 by omega]
  have e4 : ∀ W : World, (Instr.slice 40 (.slice (some ⟨g, 0, none⟩) N cap) (some (.int .i64 (N : Int))) (some (.int .i64 ((N : Int) + 1))) none).run Tryz.prog W = .ok (.slice (some ⟨g, N * 2, none⟩) (N + 1 - N) (cap - N)) W := fun W => by
    rw [run_slice_at _ _ i0 Tryz.underlying40 hi0 _ _ _ _ _ _ _ _ _ (bounds_two N cap (N : Int) ((N : Int) + 1) (by omega) (by omega)), if_neg (by omega), hs0]
    simp only [Option.map_some, addr_add0]
    rw [Int.toNat_natCast, show ((N : Int) + 1).toNat = N + 1 by omega]
  clear hi0 hs0
  go_enter Tryz.func45, Tryz.ntmps45
  go_wp2
  refine wp_region_still_tail 6 (by kernel_rfl) (by kernel_rfl) ?_
  simp only [List.take_succ_cons, List.take_zero, List.drop_succ_cons, List.drop_zero, World.drew_eq]
  repeat (refine wpStill_step (fun K hK => ?_); go_simp; refine hK _ ?_; clear hK K)
  try refine wpStill_nil ?_
  go_wp2_with (at_builtin; generalize hZZ : wpList _ _ _ _ _ _ = ZZ)
  subst hZZ
  obtain ⟨W1, hrun, r1, f1, s1, b1⟩ := HAPH.out w.drew ad c2 hgh had 40
  refine Lib.wpList_append_run _ rfl _ _ _ _ rfl _ _ rfl rfl _ _ hrun ?_
  have hcl := HCL.out W1 r1 f1
  rw [show N + 1 - N = 1 by omega] at hcl
  clear hrun e1 e2 e3
  go_wp2
  go_ret
  have hgW : g < W1.heap.size := by rw [s1]; exact hg
  have hrow : ∀ D : Array Value, rowOf (W1.setRow g D) g = D := fun D => by rw [row_setRow _ _ _ _ (by rw [r1]; omega), if_pos rfl]
  refine ⟨rfl, .inr ⟨g, cap, rfl, hbg, by simpa using hgW, by rw [fr_setRow]; exact f1, ?_, fun k hk j hj => ?_⟩, Below.setRow (below_step b1 (Nat.le_refl _) (Below.drew (Below.refl _ _))) hbg _⟩
  · rw [hrow, splice_size]; omega
  · rw [hrow, splice_get _ _ _ _ (by rw [hzs]; omega), if_neg (by omega), HCT.out _ (by omega)]
    rw [show (k * 2 + j) / 2 = k by omega, show (k * 2 + j) % 2 = j by omega]
end Go.Proofs.YtifhffnppgkjgaaGreatDoor
