/- The text of folds: the program. -/
import Derived.Test.YtbnhhjjhjjmmjaaDoorFText
import Derived.Test.YtbnhhjjhjjmmjaaDoorShelfB
import Derived.Test.YtbnhhjjhjjmmjaaDoorInks
import Derived.Test.YtbnhhjjhjjmmjaaDoorHeld
namespace Go.Proofs.YtbnhhjjhjjmmjaaDoor
open Go.RowKit
set_option linter.unusedVariables false
set_option linter.unusedSimpArgs false
set_option maxRecDepth 100000
section
variable {P : Program} {ops : Array Oper}
/-- One append to a row of one's own, met among operations in any order. -/
theorem wp_append_own {o : Oper} {a : Act} {w : World} {R : Act → World → Prop} {Q : Exit → Act → World → Prop} (s x : Operand) (t : TypeId)
    (ho : o.op = .call { callee := .builtin .append, args := #[s, x], argTypes := #[t, t] })
    (base : Nat) (e : TypeId) (i : TypeInfo) (z : Value) (size bytes : Nat) (ht : P.underlying t = some (.slice e)) (hi : P.info? e = some i) (hz : i.zero = some z)
    (hsize : i.size = size) (hby : i.bytes = bytes) (hzs : z.cells.size = size) (hsz : 0 < size)
    (v : Value) (n : Nat) (xs : List Value) (hs : a.eval s = v) (hown : w.ownsRow base e size v n xs)
    (ad : Addr) (m c : Nat) (news : List Value) (hx : a.eval x = .slice (some ad) m c) (hl : news.length = m * size) (hnews : ∀ j u, news[j]? = some u → w.cell? (ad.add j) = some u) (h1 : ∀ u ∈ news, u.oneCell' = true)
    (h63 : n + m ≤ maxLen) (hbytes : (n + m) * bytes ≤ 140737488355328) (hbase : base ≤ w.heap.size)
    (h : ∀ v' w', w'.ownsRow base e size v' (n + m) (xs ++ news) → w.grownBy w' v.ownBlock → R (a.put o.dst v') w') : o.wp P a w R Q := by
  obtain ⟨v', w', hr, h2, h3, -⟩ := run_append_own (P := P) (w := w) base t o.type e i z size bytes ht hi hz hsize hby hzs hsz v n xs hown ad m c news hl hnews h1 h63 hbytes hbase
  unfold Oper.wp execOp
  simp only [ho, resolve, invoke, builtin, Sem.run_bind, Sem.run_pure, Result.andThen_ok, List.map_toArray, List.map_cons, List.map_nil, hs, hx, hr]
  exact h v' w' h2 h3
theorem oper_hide {o : Oper} {a : Act} {w : World} {R : Act → World → Prop} {Q : Exit → Act → World → Prop} (h : ∀ R' : Act → World → Prop, (∀ a w, R a w → R' a w) → o.wp P a w R' Q) : o.wp P a w R Q := h R (fun _ _ h => h)
end
theorem grown_row {w w' : World} {row : Option Nat} (g : w.grownBy w' row) {k : Nat} (hk : k < w.heap.size) (hne : some k ≠ row) : rowOf w' k = rowOf w k := by unfold rowOf; rw [g.block k hk hne]
theorem owns_lt {w : World} {base : Nat} {e : TypeId} {size : Nat} {v : Value} {n : Nat} {xs : List Value} (h : w.ownsRow base e size v n xs) : ∀ k, v.ownBlock = some k → k < w.heap.size := by
  intro k hk
  rcases h.2 with ⟨rfl, _⟩ | ⟨g, cap, cur, rfl, hb, hg, _⟩
  · simp [Value.ownBlock] at hk
  · simp [Value.ownBlock] at hk; subst hk; exact (Array.getElem?_eq_some_iff.1 hg).1
theorem owns_slice {w : World} {base : Nat} {e : TypeId} {s : Nat} {v : Value} {n : Nat} {xs : List Value} (h : w.ownsRow base e s v n xs) (hn : 0 < n) : ∃ g cap, v = .slice (some ⟨g, 0, none⟩) n cap := by
  rcases h.2 with ⟨rfl, h0⟩ | ⟨g, cap, cur, rfl, _⟩
  · omega
  · exact ⟨g, cap, rfl⟩
def strV (l : List (List UInt8)) : List Value := l.map fun x => .string (tx x)
theorem join_is (F : Nat → Fd) (n : Nat) : Lib.join (((foldW F n).map tx).map (·.data.toList)) (tx [32]).data.toList = foldsTx F n := by
  have e : ((foldW F n).map tx).map (·.data.toList) = foldW F n := by
    rw [List.map_map]
    exact (List.map_congr_left (fun l _ => by show (tx l).data.toList = l; unfold tx; rfl)).trans (List.map_id _)
  rw [e, ← foldW_join F n]; rfl
theorem owns_cells {w : World} {base : Nat} {e : TypeId} {g cap n : Nat} {l : List (List UInt8)} (h : w.ownsRow base e 1 (.slice (some ⟨g, 0, none⟩) n cap) n (strV l)) : g < w.heap.size ∧ n ≤ cap ∧ ∀ (j : Nat) x, (l.map tx)[j]? = some x → w.cell? ⟨g, 0 + j, none⟩ = some (.string x) := by
  obtain ⟨hl, ⟨h0, -⟩ | ⟨g', cap', cur, hv, hb, hg, h1, h2, h3, ht⟩⟩ := h
  · cases h0
  · simp only [Value.slice.injEq, Option.some.injEq, Addr.mk.injEq] at hv
    obtain ⟨⟨rfl, -, -⟩, -, rfl⟩ := hv
    refine ⟨(Array.getElem?_eq_some_iff.1 hg).1, h1, fun j x hx => ?_⟩
    have hrow : rowOf w g = cur := by simp [rowOf, hg, objRow]
    rw [cell_row, hrow, Nat.zero_add, ← Array.getElem?_toList]
    have hj : j < n := by
      have := (List.getElem?_eq_some_iff.1 hx).1
      have h4 : (strV l).length = n := by rw [hl]; omega
      unfold strV at h4
      simp at this h4
      omega
    have := congrArg (fun q => q[j]?) ht
    simp only [List.getElem?_take] at this
    rw [if_pos (by omega)] at this
    rw [this]
    unfold strV
    rw [List.getElem?_map] at hx ⊢
    cases hlj : l[j]? with
    | none => rw [hlj] at hx; cases hx
    | some y => rw [hlj] at hx; simp at hx; subst hx; rfl
theorem str_info : ∃ i z, Tryd.prog.info? 9 = some i ∧ i.zero = some z ∧ i.size = 1 ∧ i.bytes = 16 ∧ z.cells.size = 1 := by
  have h : (match Tryd.prog.info? 9 with | some i => (match i.zero with | some z => i.size == 1 && i.bytes == 16 && z.cells.size == 1 | none => false) | none => false) = true := by kernel_rfl
  split at h
  · rename_i i hi
    split at h
    · rename_i z hz
      simp only [Bool.and_eq_true, beq_iff_eq] at h
      exact ⟨i, z, hi, hz, h.1.1, h.1.2, h.2⟩
    · cases h
  · cases h
theorem isText_any (x : Fd) (hx : FdIn x) (w : World) : Calls Tryd.prog 62 #[.agg #[.int .i8 x.a, .bool x.d, .int .i8 x.p]] w fun e w' => e = .returned (.bool (plainB x)) ∧ Below w.heap.size w w' := by
  obtain ⟨a, d, p⟩ := x
  obtain ⟨ha, hp⟩ := hx
  simp only at ha hp ⊢
  have hwx : IntKind.i64.wrap a = a := IntWalk.i64_in _ (by omega)
  have hwy : IntKind.i64.wrap p = p := IntWalk.i64_in _ (by omega)
  unfold plainB
  rcases Bool.eq_false_or_eq_true (inB a 1 7) with h1 | h1
  · have HX := Lib.hid (fun w => h1 ▸ within_any a 1 7 w)
    rw [h1, Bool.true_and]
    clear h1
    go_enter Tryd.func62, Tryd.ntmps62
    go_wp2_with (first | (go_at_call 47; (with_reducible refine (HX.out _).mono ?_); rintro e w1 ⟨rfl, rfl⟩) | (go_at_call 47; (with_reducible refine (within_any _ _ _ _).mono ?_); rintro e w1 ⟨rfl, rfl⟩))
    go_ret
    exact ⟨rfl, by repeat' (first | with_reducible exact Below.refl _ _ | with_reducible assumption | with_reducible refine Below.drew ?_ | with_reducible refine Below.drewN ?_ _ | with_reducible refine Below.alloc ?_ ?_ _ | with_reducible refine Below.setCell ?_ ?_ _ | with_reducible refine Below.setRow ?_ ?_ _ | with_reducible refine below_step (by assumption) ?_ ?_ | (show (_ : Nat) ≤ _; first | omega | (simp <;> omega)))⟩
  · have HX := Lib.hid (fun w => h1 ▸ within_any a 1 7 w)
    rw [h1, Bool.false_and]
    clear h1
    go_enter Tryd.func62, Tryd.ntmps62
    go_wp2_with (go_at_call 47; (with_reducible refine (HX.out _).mono ?_); rintro e w1 ⟨rfl, rfl⟩)
    go_ret
    exact ⟨rfl, by repeat' (first | with_reducible exact Below.refl _ _ | with_reducible assumption | with_reducible refine Below.drew ?_ | with_reducible refine Below.drewN ?_ _ | with_reducible refine Below.alloc ?_ ?_ _ | with_reducible refine Below.setCell ?_ ?_ _ | with_reducible refine Below.setRow ?_ ?_ _ | with_reducible refine below_step (by assumption) ?_ ?_ | (show (_ : Nat) ≤ _; first | omega | (simp <;> omega)))⟩
set_option maxHeartbeats 8000000 in
theorem iFoldsText_any (v : Value) (n : Nat) (F : Nat → Fd) (hn : n ≤ 1048576) (hF : ∀ k, k < n → FdIn (F k)) (w : World) (h : SlV 3 w v n (fdV F)) :
    Calls Tryd.prog 24 #[v] w fun e w' => e = .returned (.string (tx (fTx F n))) ∧ Below w.heap.size w w' := by
  obtain ⟨i0, z0, hi0, hz0, hs0, hb0, hc0⟩ := str_info
  have HI := Lib.hid (And.intro hi0 (And.intro hz0 (And.intro hs0 (And.intro hb0 hc0))))
  clear hi0 hz0 hs0 hb0 hc0
  obtain ⟨a, cap, rfl⟩ := h.len
  have HH := Lib.hid h
  have HF := Lib.hid hF
  clear h hF
  go_enter Tryd.func24, Tryd.ntmps24
  go_wp2
  go_loopw [10, 3] (fun i v wr => ∃ (k g cp : Nat), k ≤ n ∧ i = .int .i64 k ∧ v = .slice (some ⟨g, 0, none⟩) k cp ∧ Below w.heap.size w wr ∧ FoTo F k ∧ (0 < k → n ≤ 30) ∧ wr.ownsRow w.heap.size 9 1 v k (strV (foldW F k))) (fun i v wr => n + 1 - (intOf i).toNat)
  case atStart => exact ⟨0, w.heap.size, 0, by omega, rfl, rfl, by repeat' (first | with_reducible exact Below.refl _ _ | with_reducible assumption | with_reducible refine Below.drew ?_ | with_reducible refine Below.drewN ?_ _ | with_reducible refine Below.alloc ?_ ?_ _ | with_reducible refine Below.setCell ?_ ?_ _ | with_reducible refine Below.setRow ?_ ?_ _ | with_reducible refine below_step (by assumption) ?_ ?_ | (show (_ : Nat) ≤ _; first | omega | (simp <;> omega))), fun i h1 => by omega, fun h => by omega, owns_empty1 _ _⟩
  case round =>
    obtain ⟨k, gv, cv, hk, rfl, rfl, hb, hto, hn30, hown⟩ := hrel
    have hsz := hb.size
    have HT := Lib.hid hto
    have HO := Lib.hid hown
    clear hto hown
    by_cases hlt : k < n
    · obtain ⟨g, o, cap', hv, hg, hRs, hcells⟩ := HH.out.pos (by omega)
      simp only [Value.slice.injEq] at hv
      obtain ⟨rfl, -, rfl⟩ := hv
      have hr1 := keep_row hb hg
      have hw1 : g < wr.heap.size := Nat.lt_of_lt_of_le hg hb.size
      have he : rowExt (rowOf w g) (o + k * 3) 3 = #[.int .i8 (F k).a, .bool (F k).d, .int .i8 (F k).p] := ext_fold (by omega) (hcells k hlt)
      obtain ⟨R, hR⟩ : ∃ R, rowOf w g = R := ⟨_, rfl⟩
      rw [hR] at hr1 he hRs
      clear hcells hR
      have HPL := fun w => isText_any (F k) (HF.out k hlt) w
      rcases Bool.eq_false_or_eq_true (plainB (F k)) with hs | hs
      case inr =>
        rw [hs] at HPL
        have HPL := Lib.hid HPL
        have HN := Lib.hid (fTx_bad hlt (plainB_false hs))
        clear hs
        go_wp2_with ((go_at_call 62; refine (HPL.out _).mono ?_; rintro e w1 ⟨rfl, hb1⟩; have r1 := keep_rowA hb1; have f1 := keep_frA hb1; have s1 := hb1.size; (try simp only [World.size_alloc, World.size_setCell, setRow_size, World.size_drew, size_drewNm] at r1 f1 s1)))
        go_ret
        exact ⟨by rw [HN.out]; rfl, by repeat' (first | with_reducible exact Below.refl _ _ | with_reducible assumption | with_reducible refine Below.drew ?_ | with_reducible refine Below.drewN ?_ _ | with_reducible refine Below.alloc ?_ ?_ _ | with_reducible refine Below.setCell ?_ ?_ _ | with_reducible refine Below.setRow ?_ ?_ _ | with_reducible refine below_step (by assumption) ?_ ?_ | (show (_ : Nat) ≤ _; first | omega | (simp <;> omega)))⟩
      rw [hs] at HPL
      have HPL := Lib.hid HPL
      have HN := Lib.hid (fo_next HT.out (plainB_true hs))
      have hap := plainB_true hs
      clear hs
      by_cases h30 : 30 < n
      · have HE := Lib.hid (fTx_long (F := F) h30)
        have hd : decide ((30 : Int) < (n : Int)) = true := decide_eq_true (by omega)
        have hd2 : (30 : Int) < (n : Int) := by omega
        go_wp2_with ((go_at_call 62; refine (HPL.out _).mono ?_; rintro e w1 ⟨rfl, hb1⟩; have r1 := keep_rowA hb1; have f1 := keep_frA hb1; have s1 := hb1.size; (try simp only [World.size_alloc, World.size_setCell, setRow_size, World.size_drew, size_drewNm] at r1 f1 s1)))
        go_ret
        exact ⟨by rw [HE.out]; rfl, by repeat' (first | with_reducible exact Below.refl _ _ | with_reducible assumption | with_reducible refine Below.drew ?_ | with_reducible refine Below.drewN ?_ _ | with_reducible refine Below.alloc ?_ ?_ _ | with_reducible refine Below.setCell ?_ ?_ _ | with_reducible refine Below.setRow ?_ ?_ _ | with_reducible refine below_step (by assumption) ?_ ?_ | (show (_ : Nat) ≤ _; first | omega | (simp <;> omega)))⟩
      have hd : decide ((30 : Int) < (n : Int)) = false := decide_eq_false (by omega)
      have hd2 : ¬ (30 : Int) < (n : Int) := by omega
      have HW := Lib.hid (show strV (foldW F (k + 1)) = strV (foldW F k) ++ [.string (tx [kindB (F k).d, by8 (48 + (F k).a), 47, by8 (48 + (F k).p)])] by show strV (foldW F k ++ [foldTx (F k)]) = _; unfold strV; rw [List.map_append]; rfl)
      generalize F k = x at he HW hap HPL
      obtain ⟨a, d, p⟩ := x
      simp only at he HW hap HPL
      obtain ⟨⟨ha1, ha7⟩, hp1, hp8⟩ := hap
      obtain ⟨a', rfl⟩ : ∃ a' : Nat, a = a' := ⟨a.toNat, by omega⟩
      obtain ⟨p', rfl⟩ : ∃ p' : Nat, p = p' := ⟨p.toNat, by omega⟩
      have HDX := Lib.hid (fun w => decimal_d a' (by omega) w)
      have HDY := Lib.hid (fun w => decimal_d p' (by omega) w)
      have hwx : IntKind.i64.wrap (a' : Int) = (a' : Int) := IntWalk.i64_in _ (by omega)
      have hwy : IntKind.i64.wrap (p' : Int) = (p' : Int) := IntWalk.i64_in _ (by omega)
      generalize by8 (48 + (a' : Int)) = bx at *
      generalize by8 (48 + (p' : Int)) = bz at *
      cases d
      case false =>
        go_wp2_with (go_at_call 62; refine (HPL.out _).mono ?_; rintro e wb ⟨rfl, hbb⟩; have r_hbb := keep_rowA hbb; have f_hbb := keep_frA hbb; have s_hbb := hbb.size; (try simp only [World.size_alloc, World.size_setCell, setRow_size, World.size_drew, size_drewNm] at r_hbb f_hbb s_hbb))
        have hrF : rowOf wb wr.heap.size = #[.int .i8 a', .bool false, .int .i8 p'] := by (go_simp <;> (intros; omega))
        have HW := Lib.hid (show strV (foldW F (k + 1)) = strV (foldW F k) ++ [.string (tx [118, bx, 47, bz])] from HW.out)
        (refine wp_region_held (S := fun w' => rowOf w' (wr.heap.size) = #[.int .i8 a', .bool false, .int .i8 p']) (by kernel_rfl) ?_); (simp only [World.drew_eq]); (refine wpAnyH_take (i := 0) rfl (by kernel_rfl) (by kernel_rfl) (by kernel_rfl) (fun _ _ _ h => h) (yieldsIf_move rfl rfl) (by go_simp) ?_); (try simp only [Act.put, Act.eval, List.getElem_toArray, List.getElem_cons_zero, List.getElem_cons_succ, List.setIfInBounds_toArray, List.set_cons_zero, List.set_cons_succ, Array.getD_eq_getD_getElem?, List.getElem?_toArray, List.getElem?_cons_zero, List.getElem?_cons_succ, Option.getD_some]); (refine wpAnyH_take (i := 1) rfl (by kernel_rfl) (by kernel_rfl) (by kernel_rfl) (fun _ _ _ h => h) (yieldsIf_move rfl rfl) (by go_simp) ?_); (try simp only [Act.put, Act.eval, List.getElem_toArray, List.getElem_cons_zero, List.getElem_cons_succ, List.setIfInBounds_toArray, List.set_cons_zero, List.set_cons_succ, Array.getD_eq_getD_getElem?, List.getElem?_toArray, List.getElem?_cons_zero, List.getElem?_cons_succ, Option.getD_some]); (refine wpAnyH_take (i := 8) (v := .pointer (some ⟨wr.heap.size, 2, none⟩)) rfl (by kernel_rfl) (by kernel_rfl) (by kernel_rfl) (fun _ _ _ h => h) (.inl ⟨by first | (simp [Region.wanted]; done) | rfl | simp [Region.wanted, yielded], fun w _ => by unfold execOp; go_simp⟩) (by go_simp) ?_); (try simp only [Act.put, Act.eval, List.getElem_toArray, List.getElem_cons_zero, List.getElem_cons_succ, List.setIfInBounds_toArray, List.set_cons_zero, List.set_cons_succ, Array.getD_eq_getD_getElem?, List.getElem?_toArray, List.getElem?_cons_zero, List.getElem?_cons_succ, Option.getD_some]); (refine wpAnyH_take (i := 9) rfl (by kernel_rfl) (by kernel_rfl) (by kernel_rfl) (fun _ _ _ h => h) (yieldsIf_load (v := .int .i8 p') rfl rfl rfl (fun w h1 => by go_simp)) (by go_simp) ?_); (try simp only [Act.put, Act.eval, List.getElem_toArray, List.getElem_cons_zero, List.getElem_cons_succ, List.setIfInBounds_toArray, List.set_cons_zero, List.set_cons_succ, Array.getD_eq_getD_getElem?, List.getElem?_toArray, List.getElem?_cons_zero, List.getElem?_cons_succ, Option.getD_some]); (refine wpAnyH_take (i := 10) (v := .int .i64 p') rfl (by kernel_rfl) (by kernel_rfl) (by kernel_rfl) (fun _ _ _ h => h) (.inl ⟨by first | (simp [Region.wanted]; done) | rfl | simp [Region.wanted, yielded], fun w _ => by unfold execOp; go_simp⟩) (by go_simp) ?_); (try simp only [Act.put, Act.eval, List.getElem_toArray, List.getElem_cons_zero, List.getElem_cons_succ, List.setIfInBounds_toArray, List.set_cons_zero, List.set_cons_succ, Array.getD_eq_getD_getElem?, List.getElem?_toArray, List.getElem?_cons_zero, List.getElem?_cons_succ, Option.getD_some]); (refine wpAnyH_take (i := 2) (v := .pointer (some ⟨wr.heap.size, 0, none⟩)) rfl (by kernel_rfl) (by kernel_rfl) (by kernel_rfl) (fun _ _ _ h => h) (.inl ⟨by first | (simp [Region.wanted]; done) | rfl | simp [Region.wanted, yielded], fun w _ => by unfold execOp; go_simp⟩) (by go_simp) ?_); (try simp only [Act.put, Act.eval, List.getElem_toArray, List.getElem_cons_zero, List.getElem_cons_succ, List.setIfInBounds_toArray, List.set_cons_zero, List.set_cons_succ, Array.getD_eq_getD_getElem?, List.getElem?_toArray, List.getElem?_cons_zero, List.getElem?_cons_succ, Option.getD_some]); (refine wpAnyH_take (i := 3) rfl (by kernel_rfl) (by kernel_rfl) (by kernel_rfl) (fun _ _ _ h => h) (yieldsIf_load (v := .int .i8 a') rfl rfl rfl (fun w h1 => by go_simp)) (by go_simp) ?_); (try simp only [Act.put, Act.eval, List.getElem_toArray, List.getElem_cons_zero, List.getElem_cons_succ, List.setIfInBounds_toArray, List.set_cons_zero, List.set_cons_succ, Array.getD_eq_getD_getElem?, List.getElem?_toArray, List.getElem?_cons_zero, List.getElem?_cons_succ, Option.getD_some]); (refine wpAnyH_take (i := 4) (v := .int .i64 a') rfl (by kernel_rfl) (by kernel_rfl) (by kernel_rfl) (fun _ _ _ h => h) (.inl ⟨by first | (simp [Region.wanted]; done) | rfl | simp [Region.wanted, yielded], fun w _ => by unfold execOp; go_simp⟩) (by go_simp) ?_); (try simp only [Act.put, Act.eval, List.getElem_toArray, List.getElem_cons_zero, List.getElem_cons_succ, List.setIfInBounds_toArray, List.set_cons_zero, List.set_cons_succ, Array.getD_eq_getD_getElem?, List.getElem?_toArray, List.getElem?_cons_zero, List.getElem?_cons_succ, Option.getD_some]); (refine wpAnyH_one (i := 5) (by kernel_rfl) rfl rfl ?_); (go_simp); (first | (go_at_call 49; (with_reducible refine (HDX.out _).mono ?_); rintro e w1 ⟨rfl, rfl⟩) | (go_at_call 49; (with_reducible refine (HDY.out _).mono ?_); rintro e w1 ⟨rfl, rfl⟩)); (refine ⟨(by go_simp), ?_⟩); (try simp only [Act.put, Act.eval, List.getElem_toArray, List.getElem_cons_zero, List.getElem_cons_succ, List.setIfInBounds_toArray, List.set_cons_zero, List.set_cons_succ, Array.getD_eq_getD_getElem?, List.getElem?_toArray, List.getElem?_cons_zero, List.getElem?_cons_succ, Option.getD_some]); (refine wpAnyH_take (i := 6) (v := .string (tx [118, bx])) rfl (by kernel_rfl) (by kernel_rfl) (by kernel_rfl) (fun _ _ _ h => h) (.inl ⟨by first | (simp [Region.wanted]; done) | rfl | simp [Region.wanted, yielded], fun w _ => by unfold execOp; go_simp⟩) (by go_simp) ?_); (try simp only [Act.put, Act.eval, List.getElem_toArray, List.getElem_cons_zero, List.getElem_cons_succ, List.setIfInBounds_toArray, List.set_cons_zero, List.set_cons_succ, Array.getD_eq_getD_getElem?, List.getElem?_toArray, List.getElem?_cons_zero, List.getElem?_cons_succ, Option.getD_some]); (refine wpAnyH_take (i := 7) (v := .string (tx [118, bx, 47])) rfl (by kernel_rfl) (by kernel_rfl) (by kernel_rfl) (fun _ _ _ h => h) (.inl ⟨by first | (simp [Region.wanted]; done) | rfl | simp [Region.wanted, yielded], fun w _ => by unfold execOp; go_simp⟩) (by go_simp) ?_); (try simp only [Act.put, Act.eval, List.getElem_toArray, List.getElem_cons_zero, List.getElem_cons_succ, List.setIfInBounds_toArray, List.set_cons_zero, List.set_cons_succ, Array.getD_eq_getD_getElem?, List.getElem?_toArray, List.getElem?_cons_zero, List.getElem?_cons_succ, Option.getD_some]); (refine wpAnyH_one (i := 11) (by kernel_rfl) rfl rfl ?_); (go_simp); (first | (go_at_call 49; (with_reducible refine (HDX.out _).mono ?_); rintro e w1 ⟨rfl, rfl⟩) | (go_at_call 49; (with_reducible refine (HDY.out _).mono ?_); rintro e w1 ⟨rfl, rfl⟩)); (refine ⟨(by go_simp), ?_⟩); (try simp only [Act.put, Act.eval, List.getElem_toArray, List.getElem_cons_zero, List.getElem_cons_succ, List.setIfInBounds_toArray, List.set_cons_zero, List.set_cons_succ, Array.getD_eq_getD_getElem?, List.getElem?_toArray, List.getElem?_cons_zero, List.getElem?_cons_succ, Option.getD_some]); (refine wpAnyH_take (i := 12) (v := .string (tx [118, bx, 47, bz])) rfl (by kernel_rfl) (by kernel_rfl) (by kernel_rfl) (fun _ _ _ h => h) (.inl ⟨by first | (simp [Region.wanted]; done) | rfl | simp [Region.wanted, yielded], fun w _ => by unfold execOp; go_simp⟩) (by go_simp) ?_); (try simp only [Act.put, Act.eval, List.getElem_toArray, List.getElem_cons_zero, List.getElem_cons_succ, List.setIfInBounds_toArray, List.set_cons_zero, List.set_cons_succ, Array.getD_eq_getD_getElem?, List.getElem?_toArray, List.getElem?_cons_zero, List.getElem?_cons_succ, Option.getD_some]); ((refine wpAnyH_one (i := 13) (by kernel_rfl) rfl rfl ?_; refine oper_hide (fun RR hRR => ?_); go_simp; refine hRR _ _ ⟨(by go_simp), ?_⟩; clear hRR RR)); (try simp only [Act.put, Act.eval, List.getElem_toArray, List.getElem_cons_zero, List.getElem_cons_succ, List.setIfInBounds_toArray, List.set_cons_zero, List.set_cons_succ, Array.getD_eq_getD_getElem?, List.getElem?_toArray, List.getElem?_cons_zero, List.getElem?_cons_succ, Option.getD_some]); ((refine wpAnyH_one (i := 14) (by kernel_rfl) rfl rfl ?_; refine wp_append_own _ _ 96 rfl w.heap.size 9 i0 z0 1 16 Tryd.underlying96 HI.out.1 HI.out.2.1 HI.out.2.2.1 HI.out.2.2.2.1 HI.out.2.2.2.2 (by decide) _ k _ rfl (owns_below HO.out (by repeat' (first | with_reducible exact Below.refl _ _ | with_reducible assumption | with_reducible refine Below.drew ?_ | with_reducible refine Below.drewN ?_ _ | with_reducible refine Below.alloc ?_ ?_ _ | with_reducible refine Below.setCell ?_ ?_ _ | with_reducible refine Below.setRow ?_ ?_ _ | with_reducible refine below_step (by assumption) ?_ ?_ | (show (_ : Nat) ≤ _; first | omega | (simp <;> omega))))) ⟨wb.heap.size, 0, none⟩ 1 1 [.string (tx [118, bx, 47, bz])] rfl rfl (by intro j u hj; match j, hj with | 0, hj => (simp at hj; subst hj; first | (simp [Addr.add]; done) | (rw [cell_row]; simp [Addr.add]; done) | (rw [cell_row]; go_simp))) (by intro u hu; simp at hu; subst hu; rfl) (by unfold maxLen; omega) (by omega) (by first | omega | (simp <;> omega)) ?_; intro v2 w2 hown2 hgrow2; obtain ⟨g2, c2, rfl⟩ := owns_slice hown2 (by omega); have hB2 := Lib.hid (below_grown (B := w.heap.size) (a := w) (by repeat' (first | with_reducible exact Below.refl _ _ | with_reducible assumption | with_reducible refine Below.drew ?_ | with_reducible refine Below.drewN ?_ _ | with_reducible refine Below.alloc ?_ ?_ _ | with_reducible refine Below.setCell ?_ ?_ _ | with_reducible refine Below.setRow ?_ ?_ _ | with_reducible refine below_step (by assumption) ?_ ?_ | (show (_ : Nat) ≤ _; first | omega | (simp <;> omega)))) hgrow2 (owns_base (owns_below HO.out (Below.refl _ _))) (by first | omega | (simp <;> omega))); have hrF2 : rowOf w2 wr.heap.size = #[.int .i8 a', .bool false, .int .i8 p'] := (grown_row hgrow2 (by first | omega | (simp <;> omega)) (fun h => by have := owns_lt HO.out _ h.symm; omega)).trans (by go_simp); refine ⟨hrF2, ?_⟩; rw [← HW.out] at hown2; have hW2 := Lib.hid hown2; clear hown2 hgrow2)); (try simp only [Act.put, Act.eval, List.getElem_toArray, List.getElem_cons_zero, List.getElem_cons_succ, List.setIfInBounds_toArray, List.set_cons_zero, List.set_cons_succ, Array.getD_eq_getD_getElem?, List.getElem?_toArray, List.getElem?_cons_zero, List.getElem?_cons_succ, Option.getD_some]); (refine wpAnyH_take (i := 15) rfl (by kernel_rfl) (by kernel_rfl) (by kernel_rfl) (fun _ _ _ h => h) (yieldsIf_assign rfl rfl) (by go_simp) ?_); (try simp only [Act.put, Act.eval, List.getElem_toArray, List.getElem_cons_zero, List.getElem_cons_succ, List.setIfInBounds_toArray, List.set_cons_zero, List.set_cons_succ, Array.getD_eq_getD_getElem?, List.getElem?_toArray, List.getElem?_cons_zero, List.getElem?_cons_succ, Option.getD_some]); (refine wpAnyH_done (by kernel_rfl) ?_ _)
        go_wp2
        go_roundw
        case rel => first | exact ⟨k + 1, _, _, by omega, by go_num, rfl, hB2.out, HN.out, fun _ => by omega, hW2.out⟩ | ((repeat (with_reducible apply Exists.intro)); refine And.intro ?_ ?_; rotate_left; (focus ((repeat' (with_reducible apply And.intro)) <;> rfl)); exact ⟨k + 1, _, _, by omega, by go_num, rfl, hB2.out, HN.out, fun _ => by omega, hW2.out⟩)
        case measure => simp [intOf]; omega
      case true =>
        go_wp2_with (go_at_call 62; refine (HPL.out _).mono ?_; rintro e wb ⟨rfl, hbb⟩; have r_hbb := keep_rowA hbb; have f_hbb := keep_frA hbb; have s_hbb := hbb.size; (try simp only [World.size_alloc, World.size_setCell, setRow_size, World.size_drew, size_drewNm] at r_hbb f_hbb s_hbb))
        have hrF : rowOf wb wr.heap.size = #[.int .i8 a', .bool true, .int .i8 p'] := by (go_simp <;> (intros; omega))
        have HW := Lib.hid (show strV (foldW F (k + 1)) = strV (foldW F k) ++ [.string (tx [104, bx, 47, bz])] from HW.out)
        (refine wp_region_held (S := fun w' => rowOf w' (wr.heap.size) = #[.int .i8 a', .bool true, .int .i8 p']) (by kernel_rfl) ?_); (simp only [World.drew_eq]); (refine wpAnyH_take (i := 0) rfl (by kernel_rfl) (by kernel_rfl) (by kernel_rfl) (fun _ _ _ h => h) (yieldsIf_move rfl rfl) (by go_simp) ?_); (try simp only [Act.put, Act.eval, List.getElem_toArray, List.getElem_cons_zero, List.getElem_cons_succ, List.setIfInBounds_toArray, List.set_cons_zero, List.set_cons_succ, Array.getD_eq_getD_getElem?, List.getElem?_toArray, List.getElem?_cons_zero, List.getElem?_cons_succ, Option.getD_some]); (refine wpAnyH_take (i := 1) rfl (by kernel_rfl) (by kernel_rfl) (by kernel_rfl) (fun _ _ _ h => h) (yieldsIf_move rfl rfl) (by go_simp) ?_); (try simp only [Act.put, Act.eval, List.getElem_toArray, List.getElem_cons_zero, List.getElem_cons_succ, List.setIfInBounds_toArray, List.set_cons_zero, List.set_cons_succ, Array.getD_eq_getD_getElem?, List.getElem?_toArray, List.getElem?_cons_zero, List.getElem?_cons_succ, Option.getD_some]); (refine wpAnyH_take (i := 8) (v := .pointer (some ⟨wr.heap.size, 2, none⟩)) rfl (by kernel_rfl) (by kernel_rfl) (by kernel_rfl) (fun _ _ _ h => h) (.inl ⟨by first | (simp [Region.wanted]; done) | rfl | simp [Region.wanted, yielded], fun w _ => by unfold execOp; go_simp⟩) (by go_simp) ?_); (try simp only [Act.put, Act.eval, List.getElem_toArray, List.getElem_cons_zero, List.getElem_cons_succ, List.setIfInBounds_toArray, List.set_cons_zero, List.set_cons_succ, Array.getD_eq_getD_getElem?, List.getElem?_toArray, List.getElem?_cons_zero, List.getElem?_cons_succ, Option.getD_some]); (refine wpAnyH_take (i := 9) rfl (by kernel_rfl) (by kernel_rfl) (by kernel_rfl) (fun _ _ _ h => h) (yieldsIf_load (v := .int .i8 p') rfl rfl rfl (fun w h1 => by go_simp)) (by go_simp) ?_); (try simp only [Act.put, Act.eval, List.getElem_toArray, List.getElem_cons_zero, List.getElem_cons_succ, List.setIfInBounds_toArray, List.set_cons_zero, List.set_cons_succ, Array.getD_eq_getD_getElem?, List.getElem?_toArray, List.getElem?_cons_zero, List.getElem?_cons_succ, Option.getD_some]); (refine wpAnyH_take (i := 10) (v := .int .i64 p') rfl (by kernel_rfl) (by kernel_rfl) (by kernel_rfl) (fun _ _ _ h => h) (.inl ⟨by first | (simp [Region.wanted]; done) | rfl | simp [Region.wanted, yielded], fun w _ => by unfold execOp; go_simp⟩) (by go_simp) ?_); (try simp only [Act.put, Act.eval, List.getElem_toArray, List.getElem_cons_zero, List.getElem_cons_succ, List.setIfInBounds_toArray, List.set_cons_zero, List.set_cons_succ, Array.getD_eq_getD_getElem?, List.getElem?_toArray, List.getElem?_cons_zero, List.getElem?_cons_succ, Option.getD_some]); (refine wpAnyH_take (i := 2) (v := .pointer (some ⟨wr.heap.size, 0, none⟩)) rfl (by kernel_rfl) (by kernel_rfl) (by kernel_rfl) (fun _ _ _ h => h) (.inl ⟨by first | (simp [Region.wanted]; done) | rfl | simp [Region.wanted, yielded], fun w _ => by unfold execOp; go_simp⟩) (by go_simp) ?_); (try simp only [Act.put, Act.eval, List.getElem_toArray, List.getElem_cons_zero, List.getElem_cons_succ, List.setIfInBounds_toArray, List.set_cons_zero, List.set_cons_succ, Array.getD_eq_getD_getElem?, List.getElem?_toArray, List.getElem?_cons_zero, List.getElem?_cons_succ, Option.getD_some]); (refine wpAnyH_take (i := 3) rfl (by kernel_rfl) (by kernel_rfl) (by kernel_rfl) (fun _ _ _ h => h) (yieldsIf_load (v := .int .i8 a') rfl rfl rfl (fun w h1 => by go_simp)) (by go_simp) ?_); (try simp only [Act.put, Act.eval, List.getElem_toArray, List.getElem_cons_zero, List.getElem_cons_succ, List.setIfInBounds_toArray, List.set_cons_zero, List.set_cons_succ, Array.getD_eq_getD_getElem?, List.getElem?_toArray, List.getElem?_cons_zero, List.getElem?_cons_succ, Option.getD_some]); (refine wpAnyH_take (i := 4) (v := .int .i64 a') rfl (by kernel_rfl) (by kernel_rfl) (by kernel_rfl) (fun _ _ _ h => h) (.inl ⟨by first | (simp [Region.wanted]; done) | rfl | simp [Region.wanted, yielded], fun w _ => by unfold execOp; go_simp⟩) (by go_simp) ?_); (try simp only [Act.put, Act.eval, List.getElem_toArray, List.getElem_cons_zero, List.getElem_cons_succ, List.setIfInBounds_toArray, List.set_cons_zero, List.set_cons_succ, Array.getD_eq_getD_getElem?, List.getElem?_toArray, List.getElem?_cons_zero, List.getElem?_cons_succ, Option.getD_some]); (refine wpAnyH_one (i := 5) (by kernel_rfl) rfl rfl ?_); (go_simp); (first | (go_at_call 49; (with_reducible refine (HDX.out _).mono ?_); rintro e w1 ⟨rfl, rfl⟩) | (go_at_call 49; (with_reducible refine (HDY.out _).mono ?_); rintro e w1 ⟨rfl, rfl⟩)); (refine ⟨(by go_simp), ?_⟩); (try simp only [Act.put, Act.eval, List.getElem_toArray, List.getElem_cons_zero, List.getElem_cons_succ, List.setIfInBounds_toArray, List.set_cons_zero, List.set_cons_succ, Array.getD_eq_getD_getElem?, List.getElem?_toArray, List.getElem?_cons_zero, List.getElem?_cons_succ, Option.getD_some]); (refine wpAnyH_take (i := 6) (v := .string (tx [104, bx])) rfl (by kernel_rfl) (by kernel_rfl) (by kernel_rfl) (fun _ _ _ h => h) (.inl ⟨by first | (simp [Region.wanted]; done) | rfl | simp [Region.wanted, yielded], fun w _ => by unfold execOp; go_simp⟩) (by go_simp) ?_); (try simp only [Act.put, Act.eval, List.getElem_toArray, List.getElem_cons_zero, List.getElem_cons_succ, List.setIfInBounds_toArray, List.set_cons_zero, List.set_cons_succ, Array.getD_eq_getD_getElem?, List.getElem?_toArray, List.getElem?_cons_zero, List.getElem?_cons_succ, Option.getD_some]); (refine wpAnyH_take (i := 7) (v := .string (tx [104, bx, 47])) rfl (by kernel_rfl) (by kernel_rfl) (by kernel_rfl) (fun _ _ _ h => h) (.inl ⟨by first | (simp [Region.wanted]; done) | rfl | simp [Region.wanted, yielded], fun w _ => by unfold execOp; go_simp⟩) (by go_simp) ?_); (try simp only [Act.put, Act.eval, List.getElem_toArray, List.getElem_cons_zero, List.getElem_cons_succ, List.setIfInBounds_toArray, List.set_cons_zero, List.set_cons_succ, Array.getD_eq_getD_getElem?, List.getElem?_toArray, List.getElem?_cons_zero, List.getElem?_cons_succ, Option.getD_some]); (refine wpAnyH_one (i := 11) (by kernel_rfl) rfl rfl ?_); (go_simp); (first | (go_at_call 49; (with_reducible refine (HDX.out _).mono ?_); rintro e w1 ⟨rfl, rfl⟩) | (go_at_call 49; (with_reducible refine (HDY.out _).mono ?_); rintro e w1 ⟨rfl, rfl⟩)); (refine ⟨(by go_simp), ?_⟩); (try simp only [Act.put, Act.eval, List.getElem_toArray, List.getElem_cons_zero, List.getElem_cons_succ, List.setIfInBounds_toArray, List.set_cons_zero, List.set_cons_succ, Array.getD_eq_getD_getElem?, List.getElem?_toArray, List.getElem?_cons_zero, List.getElem?_cons_succ, Option.getD_some]); (refine wpAnyH_take (i := 12) (v := .string (tx [104, bx, 47, bz])) rfl (by kernel_rfl) (by kernel_rfl) (by kernel_rfl) (fun _ _ _ h => h) (.inl ⟨by first | (simp [Region.wanted]; done) | rfl | simp [Region.wanted, yielded], fun w _ => by unfold execOp; go_simp⟩) (by go_simp) ?_); (try simp only [Act.put, Act.eval, List.getElem_toArray, List.getElem_cons_zero, List.getElem_cons_succ, List.setIfInBounds_toArray, List.set_cons_zero, List.set_cons_succ, Array.getD_eq_getD_getElem?, List.getElem?_toArray, List.getElem?_cons_zero, List.getElem?_cons_succ, Option.getD_some]); ((refine wpAnyH_one (i := 13) (by kernel_rfl) rfl rfl ?_; refine oper_hide (fun RR hRR => ?_); go_simp; refine hRR _ _ ⟨(by go_simp), ?_⟩; clear hRR RR)); (try simp only [Act.put, Act.eval, List.getElem_toArray, List.getElem_cons_zero, List.getElem_cons_succ, List.setIfInBounds_toArray, List.set_cons_zero, List.set_cons_succ, Array.getD_eq_getD_getElem?, List.getElem?_toArray, List.getElem?_cons_zero, List.getElem?_cons_succ, Option.getD_some]); ((refine wpAnyH_one (i := 14) (by kernel_rfl) rfl rfl ?_; refine wp_append_own _ _ 96 rfl w.heap.size 9 i0 z0 1 16 Tryd.underlying96 HI.out.1 HI.out.2.1 HI.out.2.2.1 HI.out.2.2.2.1 HI.out.2.2.2.2 (by decide) _ k _ rfl (owns_below HO.out (by repeat' (first | with_reducible exact Below.refl _ _ | with_reducible assumption | with_reducible refine Below.drew ?_ | with_reducible refine Below.drewN ?_ _ | with_reducible refine Below.alloc ?_ ?_ _ | with_reducible refine Below.setCell ?_ ?_ _ | with_reducible refine Below.setRow ?_ ?_ _ | with_reducible refine below_step (by assumption) ?_ ?_ | (show (_ : Nat) ≤ _; first | omega | (simp <;> omega))))) ⟨wb.heap.size, 0, none⟩ 1 1 [.string (tx [104, bx, 47, bz])] rfl rfl (by intro j u hj; match j, hj with | 0, hj => (simp at hj; subst hj; first | (simp [Addr.add]; done) | (rw [cell_row]; simp [Addr.add]; done) | (rw [cell_row]; go_simp))) (by intro u hu; simp at hu; subst hu; rfl) (by unfold maxLen; omega) (by omega) (by first | omega | (simp <;> omega)) ?_; intro v2 w2 hown2 hgrow2; obtain ⟨g2, c2, rfl⟩ := owns_slice hown2 (by omega); have hB2 := Lib.hid (below_grown (B := w.heap.size) (a := w) (by repeat' (first | with_reducible exact Below.refl _ _ | with_reducible assumption | with_reducible refine Below.drew ?_ | with_reducible refine Below.drewN ?_ _ | with_reducible refine Below.alloc ?_ ?_ _ | with_reducible refine Below.setCell ?_ ?_ _ | with_reducible refine Below.setRow ?_ ?_ _ | with_reducible refine below_step (by assumption) ?_ ?_ | (show (_ : Nat) ≤ _; first | omega | (simp <;> omega)))) hgrow2 (owns_base (owns_below HO.out (Below.refl _ _))) (by first | omega | (simp <;> omega))); have hrF2 : rowOf w2 wr.heap.size = #[.int .i8 a', .bool true, .int .i8 p'] := (grown_row hgrow2 (by first | omega | (simp <;> omega)) (fun h => by have := owns_lt HO.out _ h.symm; omega)).trans (by go_simp); refine ⟨hrF2, ?_⟩; rw [← HW.out] at hown2; have hW2 := Lib.hid hown2; clear hown2 hgrow2)); (try simp only [Act.put, Act.eval, List.getElem_toArray, List.getElem_cons_zero, List.getElem_cons_succ, List.setIfInBounds_toArray, List.set_cons_zero, List.set_cons_succ, Array.getD_eq_getD_getElem?, List.getElem?_toArray, List.getElem?_cons_zero, List.getElem?_cons_succ, Option.getD_some]); (refine wpAnyH_take (i := 15) rfl (by kernel_rfl) (by kernel_rfl) (by kernel_rfl) (fun _ _ _ h => h) (yieldsIf_assign rfl rfl) (by go_simp) ?_); (try simp only [Act.put, Act.eval, List.getElem_toArray, List.getElem_cons_zero, List.getElem_cons_succ, List.setIfInBounds_toArray, List.set_cons_zero, List.set_cons_succ, Array.getD_eq_getD_getElem?, List.getElem?_toArray, List.getElem?_cons_zero, List.getElem?_cons_succ, Option.getD_some]); (refine wpAnyH_done (by kernel_rfl) ?_ _)
        go_wp2
        go_roundw
        case rel => first | exact ⟨k + 1, _, _, by omega, by go_num, rfl, hB2.out, HN.out, fun _ => by omega, hW2.out⟩ | ((repeat (with_reducible apply Exists.intro)); refine And.intro ?_ ?_; rotate_left; (focus ((repeat' (with_reducible apply And.intro)) <;> rfl)); exact ⟨k + 1, _, _, by omega, by go_num, rfl, hB2.out, HN.out, fun _ => by omega, hW2.out⟩)
        case measure => simp [intOf]; omega
    · have hke : k = n := by omega
      subst hke
      obtain ⟨hgs, hcp, hcells⟩ := owns_cells HO.out
      have hn30' : k ≤ 30 := by
        rcases Nat.eq_zero_or_pos k with rfl | h0
        · omega
        · exact hn30 h0
      have hlen : ((foldW F k).map tx).length = k := by rw [List.length_map, foldW_len]
      have HJ := Lib.hid (fun w2 hc hb => hlen ▸ Tryd.strings_Join gv 0 cv ((foldW F k).map tx) (tx [32]) w2 hc hb (by rw [hlen]; omega) (by rw [hlen]; exact hcp) (by rw [join_is]; have := foldsTx_len F k; omega))
      have HM := Lib.hid (show (List.map ((fun x : ByteArray => x.data.toList) ∘ tx) (foldW F k)) = (((foldW F k).map tx).map (·.data.toList)) from (List.map_map).symm)
      have HE := Lib.hid (show (⟨(Lib.join (((foldW F k).map tx).map (·.data.toList)) (tx [32]).data.toList).toArray⟩ : ByteArray) = tx (fTx F k) by rw [join_is, fTx_yes HT.out hn30']; rfl)
      have HC := Lib.hid hcells
      clear hcells
      go_wp2_with (go_at_call 63; refine (HJ.out _ HC.out hgs).mono ?_; rintro e wj ⟨rfl, hbj⟩; have r_hbj := keep_rowA hbj; have f_hbj := keep_frA hbj; have s_hbj := hbj.size; (try simp only [World.size_alloc, World.size_setCell, setRow_size, World.size_drew, size_drewNm] at r_hbj f_hbj s_hbj))
      go_ret
      exact ⟨by rw [← HE.out, ← HM.out]; rfl, by repeat' (first | with_reducible exact Below.refl _ _ | with_reducible assumption | with_reducible refine Below.drew ?_ | with_reducible refine Below.drewN ?_ _ | with_reducible refine Below.alloc ?_ ?_ _ | with_reducible refine Below.setCell ?_ ?_ _ | with_reducible refine Below.setRow ?_ ?_ _ | with_reducible refine below_step (by assumption) ?_ ?_ | (show (_ : Nat) ≤ _; first | omega | (simp <;> omega)))⟩
end Go.Proofs.YtbnhhjjhjjmmjaaDoor
