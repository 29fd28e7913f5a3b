/- The text of folds: what both sides write, and the reference. -/
import Derived.Test.YtbnhhjjhjjmmjaaDoorFoldS
import Derived.Test.YtbnhhjjhjjmmjaaDoorFold
import Derived.Test.YtbnhhjjhjjmmjaaDoorMarkS
import Derived.Lib.Join
namespace Go.Proofs.YtbnhhjjhjjmmjaaDoor
open Go.RowKit
set_option linter.unusedVariables false
set_option linter.unusedSimpArgs false
set_option maxRecDepth 100000
def kindB (d : Bool) : UInt8 := if d then 104 else 118
def foldTx (x : Fd) : List UInt8 := [kindB x.d, by8 (48 + x.a), 47, by8 (48 + x.p)]
def foldsTx (F : Nat → Fd) : Nat → List UInt8
  | 0 => []
  | k + 1 => foldsTx F k ++ ((if k = 0 then [] else [32]) ++ foldTx (F k))
theorem foldsTx_len (F : Nat → Fd) : ∀ k, (foldsTx F k).length ≤ 5 * k
  | 0 => Nat.le_refl _
  | k + 1 => by
    have := foldsTx_len F k
    show (foldsTx F k ++ _).length ≤ _
    rw [List.length_append, List.length_append]
    have : (foldTx (F k)).length = 4 := rfl
    split <;> simp <;> omega
def FoTo (F : Nat → Fd) (n : Nat) : Prop := ∀ k, k < n → (1 ≤ (F k).a ∧ (F k).a ≤ 7) ∧ 1 ≤ (F k).p ∧ (F k).p ≤ 8
open Classical in
noncomputable def foB (F : Nat → Fd) (n : Nat) : Bool := decide (FoTo F n) && decide (n ≤ 30)
noncomputable def fTx (F : Nat → Fd) (n : Nat) : List UInt8 := if foB F n = true then foldsTx F n else []
open Classical in
theorem fTx_bad {F : Nat → Fd} {n k : Nat} (hk : k < n) (h : ¬ ((1 ≤ (F k).a ∧ (F k).a ≤ 7) ∧ 1 ≤ (F k).p ∧ (F k).p ≤ 8)) : fTx F n = [] := if_neg (by unfold foB; rw [decide_eq_false (fun g => h (g k hk))]; simp)
open Classical in
theorem fTx_long {F : Nat → Fd} {n : Nat} (h : 30 < n) : fTx F n = [] := if_neg (by unfold foB; rw [decide_eq_false (p := n ≤ 30) (by omega)]; simp)
open Classical in
theorem fTx_yes {F : Nat → Fd} {n : Nat} (h : FoTo F n) (h2 : n ≤ 30) : fTx F n = foldsTx F n := if_pos (by unfold foB; rw [decide_eq_true h, decide_eq_true h2]; rfl)
theorem fo_next {F : Nat → Fd} {k : Nat} (h : FoTo F k) (g : (1 ≤ (F k).a ∧ (F k).a ≤ 7) ∧ 1 ≤ (F k).p ∧ (F k).p ≤ 8) : FoTo F (k + 1) := fun i h1 => by
  rcases Nat.lt_succ_iff_lt_or_eq.1 h1 with h2 | rfl
  · exact h i h2
  · exact g
def plainB (x : Fd) : Bool := inB x.a 1 7 && inB x.p 1 8
theorem plainB_true {x : Fd} (h : plainB x = true) : (1 ≤ x.a ∧ x.a ≤ 7) ∧ 1 ≤ x.p ∧ x.p ≤ 8 := by unfold plainB at h; rw [Bool.and_eq_true] at h; exact ⟨inB_true.1 h.1, inB_true.1 h.2⟩
theorem plainB_false {x : Fd} (h : plainB x = false) : ¬ ((1 ≤ x.a ∧ x.a ≤ 7) ∧ 1 ≤ x.p ∧ x.p ≤ 8) := fun g => by unfold plainB at h; rw [inB_true.2 g.1, inB_true.2 g.2] at h; cases h
theorem joinTail_snoc (sep : List UInt8) (r : List (List UInt8)) (y : List UInt8) : Lib.joinTail sep (r ++ [y]) = Lib.joinTail sep r ++ (sep ++ y) := by simp [Lib.joinTail]
theorem join_snoc (sep : List UInt8) (xs : List (List UInt8)) (y : List UInt8) (h : xs ≠ []) : Lib.join (xs ++ [y]) sep = Lib.join xs sep ++ (sep ++ y) := by
  cases xs with
  | nil => exact absurd rfl h
  | cons x r => rw [List.cons_append, Lib.join_cons, Lib.join_cons, joinTail_snoc, List.append_assoc]
def foldW (F : Nat → Fd) : Nat → List (List UInt8)
  | 0 => []
  | k + 1 => foldW F k ++ [foldTx (F k)]
theorem foldW_len (F : Nat → Fd) : ∀ k, (foldW F k).length = k
  | 0 => rfl
  | k + 1 => by show (foldW F k ++ _).length = _; rw [List.length_append, foldW_len F k]; rfl
theorem foldW_join (F : Nat → Fd) : ∀ k, Lib.join (foldW F k) [32] = foldsTx F k
  | 0 => rfl
  | k + 1 => by
    show Lib.join (foldW F k ++ [foldTx (F k)]) [32] = foldsTx F k ++ _
    rcases Nat.eq_zero_or_pos k with rfl | hk
    · rw [if_pos rfl]; show Lib.join [foldTx (F 0)] [32] = _; rw [Lib.join_one]; rfl
    · rw [join_snoc _ _ _ (fun h => by have := congrArg List.length h; rw [foldW_len] at this; simp at this; omega), foldW_join F k, if_neg (by omega)]
theorem l03Plain_any (x : Fd) (hx : FdIn x) (w : World) : Calls Tryd.prog 59 #[.agg #[.int .i8 x.a, .bool x.d, .int .i8 x.p]] w fun e w' => e = .returned (.bool (plainB x)) ∧ Below w.heap.size w w' := by
  obtain ⟨a, d, p⟩ := x
  obtain ⟨ha, hp⟩ := hx
  simp only at ha hp ⊢
  have hwx : IntKind.i64.wrap a = a := IntWalk.i64_in _ (by omega)
  have hwy : IntKind.i64.wrap p = p := IntWalk.i64_in _ (by omega)
  unfold plainB
  rcases Bool.eq_false_or_eq_true (inB a 1 7) with h1 | h1
  · have HX := Lib.hid (fun w => h1 ▸ l00In_any a 1 7 w)
    rw [h1, Bool.true_and]
    clear h1
    go_enter Tryd.func59, Tryd.ntmps59
    go_wp2_with (first | (go_at_call 81; (with_reducible refine (HX.out _).mono ?_); rintro e w1 ⟨rfl, rfl⟩) | (go_at_call 95; (with_reducible refine (l03Press_any _ _).mono ?_); rintro e w1 ⟨rfl, rfl⟩))
    go_ret
    exact ⟨rfl, by repeat' (first | with_reducible exact Below.refl _ _ | with_reducible assumption | with_reducible refine Below.drew ?_ | with_reducible refine Below.drewN ?_ _ | with_reducible refine Below.alloc ?_ ?_ _ | with_reducible refine Below.setCell ?_ ?_ _ | with_reducible refine Below.setRow ?_ ?_ _ | with_reducible refine below_step (by assumption) ?_ ?_ | (show (_ : Nat) ≤ _; first | omega | (simp <;> omega)))⟩
  · have HX := Lib.hid (fun w => h1 ▸ l00In_any a 1 7 w)
    rw [h1, Bool.false_and]
    clear h1
    go_enter Tryd.func59, Tryd.ntmps59
    go_wp2_with (go_at_call 81; (with_reducible refine (HX.out _).mono ?_); rintro e w1 ⟨rfl, rfl⟩)
    go_ret
    exact ⟨rfl, by repeat' (first | with_reducible exact Below.refl _ _ | with_reducible assumption | with_reducible refine Below.drew ?_ | with_reducible refine Below.drewN ?_ _ | with_reducible refine Below.alloc ?_ ?_ _ | with_reducible refine Below.setCell ?_ ?_ _ | with_reducible refine Below.setRow ?_ ?_ _ | with_reducible refine below_step (by assumption) ?_ ?_ | (show (_ : Nat) ≤ _; first | omega | (simp <;> omega)))⟩
set_option maxHeartbeats 8000000 in
theorem l03Text_any (v : Value) (n : Nat) (F : Nat → Fd) (hn : n ≤ 30) (hF : FoTo F n) (w : World) (h : SlV 3 w v n (fdV F)) :
    Calls Tryd.prog 60 #[v] w fun e w' => e = .returned (.string (tx (foldsTx F n))) ∧ Below w.heap.size w w' := by
  obtain ⟨a, cap, rfl⟩ := h.len
  have HH := Lib.hid h
  have HF := Lib.hid hF
  clear h hF
  go_enter Tryd.func60, Tryd.ntmps60
  go_wp2
  go_loopw [4, 3] (fun i s wr => ∃ (k : Nat) (acc : List UInt8), k ≤ n ∧ i = .int .i64 k ∧ s = .string (tx acc) ∧ acc = foldsTx F k ∧ Below w.heap.size w wr) (fun i s wr => n + 1 - (intOf i).toNat)
  case atStart => exact ⟨0, _, by omega, rfl, rfl, rfl, by repeat' (first | with_reducible exact Below.refl _ _ | with_reducible assumption | with_reducible refine Below.drew ?_ | with_reducible refine Below.drewN ?_ _ | with_reducible refine Below.alloc ?_ ?_ _ | with_reducible refine Below.setCell ?_ ?_ _ | with_reducible refine Below.setRow ?_ ?_ _ | with_reducible refine below_step (by assumption) ?_ ?_ | (show (_ : Nat) ≤ _; first | omega | (simp <;> omega)))⟩
  case round =>
    obtain ⟨k, acc, hk, rfl, rfl, hacc, hb⟩ := hrel
    have hal : acc.length ≤ 5 * k := by rw [hacc]; exact foldsTx_len F k
    have hq1 : ¬ 9223372036854775807 < acc.length + 1 := by omega
    have hq2 : ¬ 9223372036854775807 < acc.length + 2 := by omega
    have hq3 : ¬ 9223372036854775807 < acc.length + 3 := by omega
    have hq4 : ¬ 9223372036854775807 < acc.length + 4 := by omega
    have hq5 : ¬ 9223372036854775807 < acc.length + 5 := by omega
    have hq6 : ¬ 9223372036854775807 < acc.length + 1 + 1 := by omega
    have hq7 : ¬ 9223372036854775807 < acc.length + 1 + 3 := by omega
    have hq8 : ¬ 9223372036854775807 < acc.length + (1 + 1) := by omega
    have hq9 : ¬ 9223372036854775807 < acc.length + 1 + 1 + 3 := by omega
    have HA := Lib.hid hacc
    clear hacc
    have hsz := hb.size
    by_cases hlt : k < n
    · obtain ⟨g, o, cap', hv, hg, hRs, hcells⟩ := HH.out.pos (by omega)
      simp only [Value.slice.injEq] at hv
      obtain ⟨rfl, -, rfl⟩ := hv
      have hr1 := keep_row hb hg
      have hw1 : g < wr.heap.size := Nat.lt_of_lt_of_le hg hsz
      have hap := HF.out k hlt
      have e1 := hcells k hlt 0 (by omega)
      have e2 := hcells k hlt 1 (by omega)
      have e3 := hcells k hlt 2 (by omega)
      rw [← hr1] at e1 e2 e3
      have HNX := Lib.hid (show foldsTx F (k + 1) = foldsTx F k ++ ((if k = 0 then [] else [32]) ++ [kindB (F k).d, by8 (48 + (F k).a), 47, by8 (48 + (F k).p)]) from rfl)
      simp only [fdV, Nat.add_zero, if_true, Nat.one_ne_zero, if_false, Nat.reduceEqDiff] at e1 e2 e3
      clear hcells hr1 hRs
      generalize F k = x at e1 e2 e3 HNX hap
      obtain ⟨a, d, p⟩ := x
      simp only at e1 e2 e3 HNX hap
      obtain ⟨⟨ha1, ha7⟩, hp1, hp8⟩ := hap
      obtain ⟨a', rfl⟩ : ∃ a' : Nat, a = a' := ⟨a.toNat, by omega⟩
      obtain ⟨p', rfl⟩ : ∃ p' : Nat, p = p' := ⟨p.toNat, by omega⟩
      have HDX := Lib.hid (fun w => sDecimal_d a' (by omega) w)
      have HDY := Lib.hid (fun w => sDecimal_d p' (by omega) w)
      have hwx : IntKind.i64.wrap (a' : Int) = (a' : Int) := IntWalk.i64_in _ (by omega)
      have hwy : IntKind.i64.wrap (p' : Int) = (p' : Int) := IntWalk.i64_in _ (by omega)
      generalize by8 (48 + (a' : Int)) = bx at *
      generalize by8 (48 + (p' : Int)) = bz at *
      by_cases hk0 : k = 0
      · subst hk0
        have HAA := Lib.hid (show acc = [] from HA.out)
        simp only [Nat.zero_mul, Nat.add_zero] at e1 e2 e3
        have hn2 : 0 < n := by omega
        have hn1 : (0 : Int) < (n : Int) := by omega
        cases d
        all_goals
          go_wp2
          go_region_held3 (fun w' => (rowOf w' g)[o]? = some (.int .i8 a') ∧ (rowOf w' g)[o + 2]? = some (.int .i8 p')) (go_simp) (first | (go_at_call 90; with_reducible refine (HDX.out _).mono ?_; rintro e w1 ⟨rfl, hb1⟩; have r1 := keep_rowA hb1; have f1 := keep_frA hb1; have s1 := hb1.size; (try simp only [World.size_alloc, World.size_setCell, setRow_size, World.size_drew, size_drewNm] at r1 f1 s1)) | (go_at_call 90; with_reducible refine (HDY.out _).mono ?_; rintro e w1 ⟨rfl, hb1⟩; have r1 := keep_rowA hb1; have f1 := keep_frA hb1; have s1 := hb1.size; (try simp only [World.size_alloc, World.size_setCell, setRow_size, World.size_drew, size_drewNm] at r1 f1 s1)))
          all_goals
            go_wp2
            go_roundw
            case rel => first | exact ⟨1, _, by omega, by go_num, rfl, by rw [HNX.out, HAA.out] <;> simp [foldsTx, kindB], by repeat' (first | with_reducible exact Below.refl _ _ | with_reducible assumption | with_reducible refine Below.drew ?_ | with_reducible refine Below.drewN ?_ _ | with_reducible refine Below.alloc ?_ ?_ _ | with_reducible refine Below.setCell ?_ ?_ _ | with_reducible refine Below.setRow ?_ ?_ _ | with_reducible refine below_step (by assumption) ?_ ?_ | (show (_ : Nat) ≤ _; first | omega | (simp <;> omega)))⟩ | ((repeat (with_reducible apply Exists.intro)); refine And.intro ?_ ?_; rotate_left; (focus ((repeat' (with_reducible apply And.intro)) <;> rfl)); exact ⟨1, _, by omega, by go_num, rfl, by rw [HNX.out, HAA.out] <;> simp [foldsTx, kindB], by repeat' (first | with_reducible exact Below.refl _ _ | with_reducible assumption | with_reducible refine Below.drew ?_ | with_reducible refine Below.drewN ?_ _ | with_reducible refine Below.alloc ?_ ?_ _ | with_reducible refine Below.setCell ?_ ?_ _ | with_reducible refine Below.setRow ?_ ?_ _ | with_reducible refine below_step (by assumption) ?_ ?_ | (show (_ : Nat) ≤ _; first | omega | (simp <;> omega)))⟩)
            case measure => simp [intOf]
      · have hkz : decide ((0 : Int) < (k : Int)) = true := decide_eq_true (by omega)
        have hn2 : k < n := hlt
        have hn1 : (k : Int) < (n : Int) := by omega
        cases d
        all_goals
          go_wp2
          go_region_held3 (fun w' => (rowOf w' g)[o + k * 3]? = some (.int .i8 a') ∧ (rowOf w' g)[o + k * 3 + 2]? = some (.int .i8 p')) (go_simp) (first | (go_at_call 90; with_reducible refine (HDX.out _).mono ?_; rintro e w1 ⟨rfl, hb1⟩; have r1 := keep_rowA hb1; have f1 := keep_frA hb1; have s1 := hb1.size; (try simp only [World.size_alloc, World.size_setCell, setRow_size, World.size_drew, size_drewNm] at r1 f1 s1)) | (go_at_call 90; with_reducible refine (HDY.out _).mono ?_; rintro e w1 ⟨rfl, hb1⟩; have r1 := keep_rowA hb1; have f1 := keep_frA hb1; have s1 := hb1.size; (try simp only [World.size_alloc, World.size_setCell, setRow_size, World.size_drew, size_drewNm] at r1 f1 s1)))
          all_goals
            go_wp2
            go_roundw
            case rel => first | exact ⟨k + 1, _, by omega, by go_num, rfl, by rw [HNX.out, HA.out, if_neg hk0] <;> simp [kindB], by repeat' (first | with_reducible exact Below.refl _ _ | with_reducible assumption | with_reducible refine Below.drew ?_ | with_reducible refine Below.drewN ?_ _ | with_reducible refine Below.alloc ?_ ?_ _ | with_reducible refine Below.setCell ?_ ?_ _ | with_reducible refine Below.setRow ?_ ?_ _ | with_reducible refine below_step (by assumption) ?_ ?_ | (show (_ : Nat) ≤ _; first | omega | (simp <;> omega)))⟩ | ((repeat (with_reducible apply Exists.intro)); refine And.intro ?_ ?_; rotate_left; (focus ((repeat' (with_reducible apply And.intro)) <;> rfl)); exact ⟨k + 1, _, by omega, by go_num, rfl, by rw [HNX.out, HA.out, if_neg hk0] <;> simp [kindB], by repeat' (first | with_reducible exact Below.refl _ _ | with_reducible assumption | with_reducible refine Below.drew ?_ | with_reducible refine Below.drewN ?_ _ | with_reducible refine Below.alloc ?_ ?_ _ | with_reducible refine Below.setCell ?_ ?_ _ | with_reducible refine Below.setRow ?_ ?_ _ | with_reducible refine below_step (by assumption) ?_ ?_ | (show (_ : Nat) ≤ _; first | omega | (simp <;> omega)))⟩)
            case measure => simp [intOf]; omega
    · have hke : k = n := by omega
      subst hke
      have HE := Lib.hid HA.out
      go_wp2
      go_ret
      exact ⟨by rw [HE.out]; rfl, by repeat' (first | with_reducible exact Below.refl _ _ | with_reducible assumption | with_reducible refine Below.drew ?_ | with_reducible refine Below.drewN ?_ _ | with_reducible refine Below.alloc ?_ ?_ _ | with_reducible refine Below.setCell ?_ ?_ _ | with_reducible refine Below.setRow ?_ ?_ _ | with_reducible refine below_step (by assumption) ?_ ?_ | (show (_ : Nat) ≤ _; first | omega | (simp <;> omega)))⟩
set_option maxHeartbeats 4000000 in
theorem sFoldsText_any (v : Value) (n : Nat) (F : Nat → Fd) (hn : n ≤ 1048576) (hF : ∀ k, k < n → FdIn (F k)) (w : World) (h : SlV 3 w v n (fdV F)) :
    Calls Tryd.prog 22 #[v] w fun e w' => e = .returned (.string (tx (fTx F n))) ∧ Below w.heap.size w w' := by
  obtain ⟨a, cap, rfl⟩ := h.len
  have HH := Lib.hid h
  have HF := Lib.hid hF
  clear h hF
  go_enter Tryd.func22, Tryd.ntmps22
  go_wp2
  go_loopw [3] (fun i wr => ∃ k : Nat, k ≤ n ∧ i = .int .i64 k ∧ Below w.heap.size w wr ∧ FoTo F k) (fun i wr => n + 1 - (intOf i).toNat)
  case atStart => exact ⟨0, by omega, rfl, by repeat' (first | with_reducible exact Below.refl _ _ | with_reducible assumption | with_reducible refine Below.drew ?_ | with_reducible refine Below.drewN ?_ _ | with_reducible refine Below.alloc ?_ ?_ _ | with_reducible refine Below.setCell ?_ ?_ _ | with_reducible refine Below.setRow ?_ ?_ _ | with_reducible refine below_step (by assumption) ?_ ?_ | (show (_ : Nat) ≤ _; first | omega | (simp <;> omega))), fun i h1 => by omega⟩
  case round =>
    obtain ⟨k, hk1, rfl, hb, hto⟩ := hrel
    have hsz := hb.size
    have HT := Lib.hid hto
    clear hto
    by_cases hlt : k < n
    · obtain ⟨g, o, cap', hv, hg, hRs, hcells⟩ := HH.out.pos (by omega)
      simp only [Value.slice.injEq] at hv
      obtain ⟨rfl, -, rfl⟩ := hv
      have hr1 := keep_row hb hg
      have hw1 : g < wr.heap.size := Nat.lt_of_lt_of_le hg hb.size
      have he : rowExt (rowOf w g) (o + k * 3) 3 = #[.int .i8 (F k).a, .bool (F k).d, .int .i8 (F k).p] := ext_fold (by omega) (hcells k hlt)
      obtain ⟨R, hR⟩ : ∃ R, rowOf w g = R := ⟨_, rfl⟩
      rw [hR] at hr1 he hRs
      clear hcells hR
      have HPL := fun w => l03Plain_any (F k) (HF.out k hlt) w
      rcases Bool.eq_false_or_eq_true (plainB (F k)) with hs | hs
      · rw [hs] at HPL
        have HPL := Lib.hid HPL
        have HN := Lib.hid (fo_next HT.out (plainB_true hs))
        clear hs
        go_wp2_with ((go_at_call 59; refine (HPL.out _).mono ?_; rintro e w1 ⟨rfl, hb1⟩; have r1 := keep_rowA hb1; have f1 := keep_frA hb1; have s1 := hb1.size; (try simp only [World.size_alloc, World.size_setCell, setRow_size, World.size_drew, size_drewNm] at r1 f1 s1)))
        go_roundw
        case rel => first | exact ⟨k + 1, by omega, by go_num, by repeat' (first | with_reducible exact Below.refl _ _ | with_reducible assumption | with_reducible refine Below.drew ?_ | with_reducible refine Below.drewN ?_ _ | with_reducible refine Below.alloc ?_ ?_ _ | with_reducible refine Below.setCell ?_ ?_ _ | with_reducible refine Below.setRow ?_ ?_ _ | with_reducible refine below_step (by assumption) ?_ ?_ | (show (_ : Nat) ≤ _; first | omega | (simp <;> omega))), HN.out⟩ | ((repeat (with_reducible apply Exists.intro)); refine And.intro ?_ ?_; rotate_left; (focus ((repeat' (with_reducible apply And.intro)) <;> rfl)); exact ⟨k + 1, by omega, by go_num, by repeat' (first | with_reducible exact Below.refl _ _ | with_reducible assumption | with_reducible refine Below.drew ?_ | with_reducible refine Below.drewN ?_ _ | with_reducible refine Below.alloc ?_ ?_ _ | with_reducible refine Below.setCell ?_ ?_ _ | with_reducible refine Below.setRow ?_ ?_ _ | with_reducible refine below_step (by assumption) ?_ ?_ | (show (_ : Nat) ≤ _; first | omega | (simp <;> omega))), HN.out⟩)
        case measure => simp [intOf]; omega
      · rw [hs] at HPL
        have HPL := Lib.hid HPL
        have HN := Lib.hid (fTx_bad hlt (plainB_false hs))
        clear hs
        go_wp2_with ((go_at_call 59; refine (HPL.out _).mono ?_; rintro e w1 ⟨rfl, hb1⟩; have r1 := keep_rowA hb1; have f1 := keep_frA hb1; have s1 := hb1.size; (try simp only [World.size_alloc, World.size_setCell, setRow_size, World.size_drew, size_drewNm] at r1 f1 s1)))
        go_ret
        exact ⟨by rw [HN.out]; rfl, by repeat' (first | with_reducible exact Below.refl _ _ | with_reducible assumption | with_reducible refine Below.drew ?_ | with_reducible refine Below.drewN ?_ _ | with_reducible refine Below.alloc ?_ ?_ _ | with_reducible refine Below.setCell ?_ ?_ _ | with_reducible refine Below.setRow ?_ ?_ _ | with_reducible refine below_step (by assumption) ?_ ?_ | (show (_ : Nat) ≤ _; first | omega | (simp <;> omega)))⟩
    · have hke : k = n := by omega
      subst hke
      by_cases h30 : k ≤ 30
      · have HE := Lib.hid (fTx_yes HT.out h30)
        have HX := Lib.hid (fun w h => l03Text_any (.slice a k cap) k F h30 HT.out w h)
        have hd : decide ((30 : Int) < (k : Int)) = false := decide_eq_false (by omega)
        have hd2 : ¬ (30 : Int) < (k : Int) := by omega
        go_wp2_with ((go_at_call 60; refine (HX.out _ (HH.out.below (by repeat' (first | with_reducible exact Below.refl _ _ | with_reducible assumption | with_reducible refine Below.drew ?_ | with_reducible refine Below.drewN ?_ _ | with_reducible refine Below.alloc ?_ ?_ _ | with_reducible refine Below.setCell ?_ ?_ _ | with_reducible refine Below.setRow ?_ ?_ _ | with_reducible refine below_step (by assumption) ?_ ?_ | (show (_ : Nat) ≤ _; first | omega | (simp <;> omega)))) (Nat.le_refl _))).mono ?_; rintro e w1 ⟨rfl, hb1⟩; have r1 := keep_rowA hb1; have f1 := keep_frA hb1; have s1 := hb1.size; (try simp only [World.size_alloc, World.size_setCell, setRow_size, World.size_drew, size_drewNm] at r1 f1 s1)))
        go_ret
        exact ⟨by rw [HE.out]; rfl, by repeat' (first | with_reducible exact Below.refl _ _ | with_reducible assumption | with_reducible refine Below.drew ?_ | with_reducible refine Below.drewN ?_ _ | with_reducible refine Below.alloc ?_ ?_ _ | with_reducible refine Below.setCell ?_ ?_ _ | with_reducible refine Below.setRow ?_ ?_ _ | with_reducible refine below_step (by assumption) ?_ ?_ | (show (_ : Nat) ≤ _; first | omega | (simp <;> omega)))⟩
      · have HE := Lib.hid (fTx_long (F := F) (n := k) (by omega))
        have hd : decide ((30 : Int) < (k : Int)) = true := decide_eq_true (by omega)
        have hd2 : (30 : Int) < (k : Int) := by omega
        go_wp2
        go_ret
        exact ⟨by rw [HE.out]; rfl, by repeat' (first | with_reducible exact Below.refl _ _ | with_reducible assumption | with_reducible refine Below.drew ?_ | with_reducible refine Below.drewN ?_ _ | with_reducible refine Below.alloc ?_ ?_ _ | with_reducible refine Below.setCell ?_ ?_ _ | with_reducible refine Below.setRow ?_ ?_ _ | with_reducible refine below_step (by assumption) ?_ ?_ | (show (_ : Nat) ≤ _; first | omega | (simp <;> omega)))⟩
end Go.Proofs.YtbnhhjjhjjmmjaaDoor
