/- The text of a path: the reference, the steps. Written by gen_ptexts.py. -/
import Derived.Test.YtbnhhjjhjjmmjaaDoorPText
import Derived.Test.YtbnhhjjhjjmmjaaDoorMarkS
namespace Go.Proofs.YtbnhhjjhjjmmjaaDoor
open Go.RowKit
set_option linter.unusedVariables false
set_option linter.unusedSimpArgs false
set_option maxRecDepth 100000
@[go_sem] theorem nesw_0 (h : 0 < (ByteArray.mk #[110, 101, 115, 119]).size) : (ByteArray.mk #[110, 101, 115, 119])[0]'h = 110 := rfl
@[go_sem] theorem nesw_1 (h : 1 < (ByteArray.mk #[110, 101, 115, 119]).size) : (ByteArray.mk #[110, 101, 115, 119])[1]'h = 101 := rfl
@[go_sem] theorem nesw_2 (h : 2 < (ByteArray.mk #[110, 101, 115, 119]).size) : (ByteArray.mk #[110, 101, 115, 119])[2]'h = 115 := rfl
@[go_sem] theorem nesw_3 (h : 3 < (ByteArray.mk #[110, 101, 115, 119]).size) : (ByteArray.mk #[110, 101, 115, 119])[3]'h = 119 := rfl
theorem by_110 : by8 110 = 110 := by decide
theorem by_101 : by8 101 = 101 := by decide
theorem by_115 : by8 115 = 115 := by decide
theorem by_119 : by8 119 = 119 := by decide
theorem gap_yes {n : Nat} (h : 1 < n) : gapTx n = [32] := if_pos h
theorem gap_no {n : Nat} (h : ¬ 1 < n) : gapTx n = [] := if_neg h
set_option maxHeartbeats 8000000 in
theorem l04Text_any (v : Value) (n : Nat) (f : Nat → Int) (h1n : 1 ≤ n) (hn : n ≤ 80) (hf : CellsTo f n) (w : World) (h : SlA .i8 2 w v n f) :
    Calls Tryd.prog 51 #[v] w fun e w' => e = .returned (.string (tx (pathTx f n))) ∧ Below w.heap.size w w' := by
  obtain ⟨g, o, cap, rfl, hg, hcells⟩ := h.pos (by omega)
  have HF := Lib.hid hf
  have HC := Lib.hid hcells
  clear h hf hcells
  have a1 := HC.out 0 (by omega)
  have a2 := HC.out 1 (by omega)
  rw [Nat.add_zero] at a1
  have HHD := Lib.hid (show headTx f = [by8 (48 + f 0), 44, by8 (48 + f 1)] from rfl)
  have hxy := HF.out 0 (by omega)
  simp only [Nat.zero_mul, Nat.zero_add] at hxy
  obtain ⟨hx7, hy7⟩ := hxy
  have HPT := Lib.hid (show pathTx f n = headTx f ++ gapTx n ++ stepsTx f (n - 1) from rfl)
  generalize f 0 = x at a1 HHD hx7
  generalize f 1 = y at a2 HHD hy7
  obtain ⟨x', rfl⟩ : ∃ x' : Nat, x = x' := ⟨x.toNat, by omega⟩
  obtain ⟨y', rfl⟩ : ∃ y' : Nat, y = y' := ⟨y.toNat, by omega⟩
  have HDX := Lib.hid (fun w => sDecimal_d x' (by omega) w)
  have HDY := Lib.hid (fun w => sDecimal_d y' (by omega) w)
  have hwx : IntKind.i64.wrap (x' : Int) = (x' : Int) := IntWalk.i64_in _ (by omega)
  have hwy : IntKind.i64.wrap (y' : Int) = (y' : Int) := IntWalk.i64_in _ (by omega)
  have hn0 : ¬ n ≤ 0 := by omega
  have hn2 : 0 < n := by omega
  have hn1 : (0 : Int) < (n : Int) := by omega
  generalize by8 (48 + (x' : Int)) = bx at *
  generalize by8 (48 + (y' : Int)) = bz at *
  go_enter Tryd.func51, Tryd.ntmps51
  go_wp2
  go_region_held3 (fun w' => (rowOf w' g)[o]? = some (.int .i8 x') ∧ (rowOf w' g)[o + 1]? = some (.int .i8 y')) (go_simp) (first | (go_at_call 90; with_reducible refine (HDX.out _).mono ?_; rintro e w1 ⟨rfl, hb1⟩; have r1 := keep_rowA hb1; have f1 := keep_frA hb1; have s1 := hb1.size; (try simp only [World.size_alloc, World.size_setCell, setRow_size, World.size_drew, size_drewNm] at r1 f1 s1)) | (go_at_call 90; with_reducible refine (HDY.out _).mono ?_; rintro e w1 ⟨rfl, hb1⟩; have r1 := keep_rowA hb1; have f1 := keep_frA hb1; have s1 := hb1.size; (try simp only [World.size_alloc, World.size_setCell, setRow_size, World.size_drew, size_drewNm] at r1 f1 s1)))
  all_goals
    by_cases hgap : 1 < n
    · have HG := Lib.hid (gap_yes hgap)
      have hgi : (1 : Int) < (n : Int) := by omega
      go_wp2
      clear hgap hgi a1 a2
      go_loopw [4, 3] (fun i s wr => ∃ (j : Nat) (acc : List UInt8), j + 1 ≤ n ∧ i = .int .i64 ((j : Int) + 1) ∧ s = .string (tx acc) ∧ acc = headTx f ++ gapTx n ++ stepsTx f j ∧ Below w.heap.size w wr) (fun i s wr => n + 1 - (intOf i).toNat)
      case atStart => exact ⟨0, _, by omega, rfl, rfl, by rw [HHD.out, HG.out] <;> simp [stepsTx], by repeat' (first | with_reducible exact Below.refl _ _ | with_reducible assumption | with_reducible refine Below.drew ?_ | with_reducible refine Below.drewN ?_ _ | with_reducible refine Below.alloc ?_ ?_ _ | with_reducible refine Below.setCell ?_ ?_ _ | with_reducible refine Below.setRow ?_ ?_ _ | with_reducible refine below_step (by assumption) ?_ ?_ | (show (_ : Nat) ≤ _; first | omega | (simp <;> omega)))⟩
      case round =>
        obtain ⟨j, acc, hj, rfl, rfl, hacc, hb⟩ := hrel
        have hal : acc.length ≤ 4 * j + 4 := by rw [hacc, HHD.out, HG.out]; have := stepsTx_len f j; simp; omega
        have HA := Lib.hid hacc
        clear hacc
        have hsz := hb.size
        by_cases hlt : j + 1 < n
        · have hxy := HF.out j (by omega)
          have huv := HF.out (j + 1) hlt
          have e1 := HC.out (j * 2) (by omega)
          have e2 := HC.out (j * 2 + 1) (by omega)
          have e3 := HC.out ((j + 1) * 2) (by omega)
          have e4 := HC.out ((j + 1) * 2 + 1) (by omega)
          have HNX := Lib.hid (show stepsTx f (j + 1) = stepsTx f j ++ dirK (f (j * 2)) (f (j * 2 + 1)) (f ((j + 1) * 2)) (f ((j + 1) * 2 + 1)) 4 from rfl)
          generalize f (j * 2) = x1 at e1 HNX hxy
          generalize f (j * 2 + 1) = y1 at e2 HNX hxy
          generalize f ((j + 1) * 2) = x2 at e3 HNX huv
          generalize f ((j + 1) * 2 + 1) = y2 at e4 HNX huv
          rw [← Nat.add_assoc] at e2 e4
          have hms : ((j : Int) + 1) - 1 = (j : Int) := by omega
          have hwm : IntKind.i64.wrap (j : Int) = (j : Int) := IntWalk.i64_in _ (by omega)
          have hm1 : ¬ n ≤ j := by omega
          have hm2 : ¬ ((j : Int) + 1 < 0) := by omega
          have hm3 : ¬ n ≤ j + 1 := by omega
          have hm4 : ¬ n < j + 1 := by omega
          have hm6 : (0 : Int) ≤ (j : Int) := by omega
          have hm7 : (j : Int) < (n : Int) := by omega
          have hm8 : (0 : Int) ≤ (j : Int) + 1 := by omega
          have hm9 : (j : Int) + 1 < (n : Int) := by omega
          go_wp2
          go_loopw [5, 3] (fun i s wx => ∃ (k : Nat) (ac2 : List UInt8), k ≤ 4 ∧ i = .int .i64 k ∧ s = .string (tx ac2) ∧ ac2 = acc ++ dirK x1 y1 x2 y2 k ∧ Below w.heap.size w wx) (fun i s wx => 5 - (intOf i).toNat)
          case atStart => exact ⟨0, _, by omega, rfl, rfl, by simp [dirK], by repeat' (first | with_reducible exact Below.refl _ _ | with_reducible assumption | with_reducible refine Below.drew ?_ | with_reducible refine Below.drewN ?_ _ | with_reducible refine Below.alloc ?_ ?_ _ | with_reducible refine Below.setCell ?_ ?_ _ | with_reducible refine Below.setRow ?_ ?_ _ | with_reducible refine below_step (by assumption) ?_ ?_ | (show (_ : Nat) ≤ _; first | omega | (simp <;> omega)))⟩
          case round =>
            obtain ⟨k, ac2, hk, rfl, rfl, hac2, hb2⟩ := hrel
            have hal2 : ac2.length ≤ 4 * j + 8 := by rw [hac2]; have := dirK_len x1 y1 x2 y2 k; simp; omega
            have hal3 : ac2.length + 1 ≤ 9223372036854775807 := by omega
            have hal4 : ¬ 9223372036854775807 < ac2.length + 1 := by omega
            have HA2 := Lib.hid hac2
            clear hac2
            have hsz2 := hb2.size
            have hr1 := keep_row hb2 hg
            rw [← hr1] at e1 e2 e3 e4
            clear hr1
            have hgw : g < wr.heap.size := Nat.lt_of_lt_of_le hg hsz2
            by_cases hk4 : k < 4
            · have hd4 : decide ((k : Int) < 4) = true := decide_eq_true (by omega)
              have HX := Lib.hid (fun w => l01Next_any k hk4 x1 y1 (by omega) (by omega) w)
              rcases Bool.eq_false_or_eq_true (sameP (nx k x1 y1) x2 y2) with hs | hs
              · have HY := Lib.hid (dirK_yes hs)
                generalize nx k x1 y1 = p at *
                obtain ⟨px, py⟩ := p
                have hs2 : px = x2 ∧ py = y2 := by simpa [sameP] using hs
                obtain ⟨rfl, rfl⟩ := hs2
                clear hs
                rcases (show k = 0 ∨ k = 1 ∨ k = 2 ∨ k = 3 by omega) with rfl | rfl | rfl | rfl
                all_goals
                  go_wp2
                  go_region_held3 (fun w' => (rowOf w' g)[o + j * 2]? = some (.int .i8 x1) ∧ (rowOf w' g)[o + j * 2 + 1]? = some (.int .i8 y1) ∧ (rowOf w' g)[o + (j + 1) * 2]? = some (.int .i8 px) ∧ (rowOf w' g)[o + (j + 1) * 2 + 1]? = some (.int .i8 py)) (go_simp) ((go_at_call 77; refine (HX.out _).mono ?_; rintro e w1 ⟨rfl, hb1⟩; have r1 := keep_rowA hb1; have f1 := keep_frA hb1; have s1 := hb1.size; (try simp only [World.size_alloc, World.size_setCell, setRow_size, World.size_drew, size_drewNm] at r1 f1 s1)))
                  all_goals
                    go_wp2
                    go_roundw
                    case rel => first | first | exact ⟨1, _, by omega, by go_num, rfl, by rw [HY.out, HA2.out, by_110, show dirB 0 = 110 from rfl]; simp, by repeat' (first | with_reducible exact Below.refl _ _ | with_reducible assumption | with_reducible refine Below.drew ?_ | with_reducible refine Below.drewN ?_ _ | with_reducible refine Below.alloc ?_ ?_ _ | with_reducible refine Below.setCell ?_ ?_ _ | with_reducible refine Below.setRow ?_ ?_ _ | with_reducible refine below_step (by assumption) ?_ ?_ | (show (_ : Nat) ≤ _; first | omega | (simp <;> omega)))⟩ | ((repeat (with_reducible apply Exists.intro)); refine And.intro ?_ ?_; rotate_left; (focus ((repeat' (with_reducible apply And.intro)) <;> rfl)); exact ⟨1, _, by omega, by go_num, rfl, by rw [HY.out, HA2.out, by_110, show dirB 0 = 110 from rfl]; simp, by repeat' (first | with_reducible exact Below.refl _ _ | with_reducible assumption | with_reducible refine Below.drew ?_ | with_reducible refine Below.drewN ?_ _ | with_reducible refine Below.alloc ?_ ?_ _ | with_reducible refine Below.setCell ?_ ?_ _ | with_reducible refine Below.setRow ?_ ?_ _ | with_reducible refine below_step (by assumption) ?_ ?_ | (show (_ : Nat) ≤ _; first | omega | (simp <;> omega)))⟩) | first | exact ⟨2, _, by omega, by go_num, rfl, by rw [HY.out, HA2.out, by_101, show dirB 1 = 101 from rfl]; simp, by repeat' (first | with_reducible exact Below.refl _ _ | with_reducible assumption | with_reducible refine Below.drew ?_ | with_reducible refine Below.drewN ?_ _ | with_reducible refine Below.alloc ?_ ?_ _ | with_reducible refine Below.setCell ?_ ?_ _ | with_reducible refine Below.setRow ?_ ?_ _ | with_reducible refine below_step (by assumption) ?_ ?_ | (show (_ : Nat) ≤ _; first | omega | (simp <;> omega)))⟩ | ((repeat (with_reducible apply Exists.intro)); refine And.intro ?_ ?_; rotate_left; (focus ((repeat' (with_reducible apply And.intro)) <;> rfl)); exact ⟨2, _, by omega, by go_num, rfl, by rw [HY.out, HA2.out, by_101, show dirB 1 = 101 from rfl]; simp, by repeat' (first | with_reducible exact Below.refl _ _ | with_reducible assumption | with_reducible refine Below.drew ?_ | with_reducible refine Below.drewN ?_ _ | with_reducible refine Below.alloc ?_ ?_ _ | with_reducible refine Below.setCell ?_ ?_ _ | with_reducible refine Below.setRow ?_ ?_ _ | with_reducible refine below_step (by assumption) ?_ ?_ | (show (_ : Nat) ≤ _; first | omega | (simp <;> omega)))⟩) | first | exact ⟨3, _, by omega, by go_num, rfl, by rw [HY.out, HA2.out, by_115, show dirB 2 = 115 from rfl]; simp, by repeat' (first | with_reducible exact Below.refl _ _ | with_reducible assumption | with_reducible refine Below.drew ?_ | with_reducible refine Below.drewN ?_ _ | with_reducible refine Below.alloc ?_ ?_ _ | with_reducible refine Below.setCell ?_ ?_ _ | with_reducible refine Below.setRow ?_ ?_ _ | with_reducible refine below_step (by assumption) ?_ ?_ | (show (_ : Nat) ≤ _; first | omega | (simp <;> omega)))⟩ | ((repeat (with_reducible apply Exists.intro)); refine And.intro ?_ ?_; rotate_left; (focus ((repeat' (with_reducible apply And.intro)) <;> rfl)); exact ⟨3, _, by omega, by go_num, rfl, by rw [HY.out, HA2.out, by_115, show dirB 2 = 115 from rfl]; simp, by repeat' (first | with_reducible exact Below.refl _ _ | with_reducible assumption | with_reducible refine Below.drew ?_ | with_reducible refine Below.drewN ?_ _ | with_reducible refine Below.alloc ?_ ?_ _ | with_reducible refine Below.setCell ?_ ?_ _ | with_reducible refine Below.setRow ?_ ?_ _ | with_reducible refine below_step (by assumption) ?_ ?_ | (show (_ : Nat) ≤ _; first | omega | (simp <;> omega)))⟩) | first | exact ⟨4, _, by omega, by go_num, rfl, by rw [HY.out, HA2.out, by_119, show dirB 3 = 119 from rfl]; simp, by repeat' (first | with_reducible exact Below.refl _ _ | with_reducible assumption | with_reducible refine Below.drew ?_ | with_reducible refine Below.drewN ?_ _ | with_reducible refine Below.alloc ?_ ?_ _ | with_reducible refine Below.setCell ?_ ?_ _ | with_reducible refine Below.setRow ?_ ?_ _ | with_reducible refine below_step (by assumption) ?_ ?_ | (show (_ : Nat) ≤ _; first | omega | (simp <;> omega)))⟩ | ((repeat (with_reducible apply Exists.intro)); refine And.intro ?_ ?_; rotate_left; (focus ((repeat' (with_reducible apply And.intro)) <;> rfl)); exact ⟨4, _, by omega, by go_num, rfl, by rw [HY.out, HA2.out, by_119, show dirB 3 = 119 from rfl]; simp, by repeat' (first | with_reducible exact Below.refl _ _ | with_reducible assumption | with_reducible refine Below.drew ?_ | with_reducible refine Below.drewN ?_ _ | with_reducible refine Below.alloc ?_ ?_ _ | with_reducible refine Below.setCell ?_ ?_ _ | with_reducible refine Below.setRow ?_ ?_ _ | with_reducible refine below_step (by assumption) ?_ ?_ | (show (_ : Nat) ≤ _; first | omega | (simp <;> omega)))⟩)
                    case measure => simp [intOf]
              · have HN := Lib.hid (dirK_no hs)
                generalize nx k x1 y1 = p at HX hs
                obtain ⟨px, py⟩ := p
                by_cases h1 : px = x2
                · subst h1
                  have h2 : ¬ py = y2 := by simpa [sameP] using hs
                  have h2b : (py == y2) = false := by simpa using h2
                  have h2d : decide (py = y2) = false := decide_eq_false h2
                  clear hs h2
                  go_wp2
                  go_region_held3 (fun w' => (rowOf w' g)[o + j * 2]? = some (.int .i8 x1) ∧ (rowOf w' g)[o + j * 2 + 1]? = some (.int .i8 y1) ∧ (rowOf w' g)[o + (j + 1) * 2]? = some (.int .i8 px) ∧ (rowOf w' g)[o + (j + 1) * 2 + 1]? = some (.int .i8 y2)) (go_simp) ((go_at_call 77; refine (HX.out _).mono ?_; rintro e w1 ⟨rfl, hb1⟩; have r1 := keep_rowA hb1; have f1 := keep_frA hb1; have s1 := hb1.size; (try simp only [World.size_alloc, World.size_setCell, setRow_size, World.size_drew, size_drewNm] at r1 f1 s1)))
                  all_goals
                    go_wp2
                    go_roundw
                    case rel => first | exact ⟨k + 1, _, by omega, by go_num, rfl, by rw [HN.out, HA2.out], by repeat' (first | with_reducible exact Below.refl _ _ | with_reducible assumption | with_reducible refine Below.drew ?_ | with_reducible refine Below.drewN ?_ _ | with_reducible refine Below.alloc ?_ ?_ _ | with_reducible refine Below.setCell ?_ ?_ _ | with_reducible refine Below.setRow ?_ ?_ _ | with_reducible refine below_step (by assumption) ?_ ?_ | (show (_ : Nat) ≤ _; first | omega | (simp <;> omega)))⟩ | ((repeat (with_reducible apply Exists.intro)); refine And.intro ?_ ?_; rotate_left; (focus ((repeat' (with_reducible apply And.intro)) <;> rfl)); exact ⟨k + 1, _, by omega, by go_num, rfl, by rw [HN.out, HA2.out], by repeat' (first | with_reducible exact Below.refl _ _ | with_reducible assumption | with_reducible refine Below.drew ?_ | with_reducible refine Below.drewN ?_ _ | with_reducible refine Below.alloc ?_ ?_ _ | with_reducible refine Below.setCell ?_ ?_ _ | with_reducible refine Below.setRow ?_ ?_ _ | with_reducible refine below_step (by assumption) ?_ ?_ | (show (_ : Nat) ≤ _; first | omega | (simp <;> omega)))⟩)
                    case measure => simp [intOf]; omega
                · have h2b : (px == x2) = false := by simpa using h1
                  have h2d : decide (px = x2) = false := decide_eq_false h1
                  clear hs h1
                  go_wp2
                  go_region_held3 (fun w' => (rowOf w' g)[o + j * 2]? = some (.int .i8 x1) ∧ (rowOf w' g)[o + j * 2 + 1]? = some (.int .i8 y1) ∧ (rowOf w' g)[o + (j + 1) * 2]? = some (.int .i8 x2) ∧ (rowOf w' g)[o + (j + 1) * 2 + 1]? = some (.int .i8 y2)) (go_simp) ((go_at_call 77; refine (HX.out _).mono ?_; rintro e w1 ⟨rfl, hb1⟩; have r1 := keep_rowA hb1; have f1 := keep_frA hb1; have s1 := hb1.size; (try simp only [World.size_alloc, World.size_setCell, setRow_size, World.size_drew, size_drewNm] at r1 f1 s1)))
                  all_goals
                    go_wp2
                    go_roundw
                    case rel => first | exact ⟨k + 1, _, by omega, by go_num, rfl, by rw [HN.out, HA2.out], by repeat' (first | with_reducible exact Below.refl _ _ | with_reducible assumption | with_reducible refine Below.drew ?_ | with_reducible refine Below.drewN ?_ _ | with_reducible refine Below.alloc ?_ ?_ _ | with_reducible refine Below.setCell ?_ ?_ _ | with_reducible refine Below.setRow ?_ ?_ _ | with_reducible refine below_step (by assumption) ?_ ?_ | (show (_ : Nat) ≤ _; first | omega | (simp <;> omega)))⟩ | ((repeat (with_reducible apply Exists.intro)); refine And.intro ?_ ?_; rotate_left; (focus ((repeat' (with_reducible apply And.intro)) <;> rfl)); exact ⟨k + 1, _, by omega, by go_num, rfl, by rw [HN.out, HA2.out], by repeat' (first | with_reducible exact Below.refl _ _ | with_reducible assumption | with_reducible refine Below.drew ?_ | with_reducible refine Below.drewN ?_ _ | with_reducible refine Below.alloc ?_ ?_ _ | with_reducible refine Below.setCell ?_ ?_ _ | with_reducible refine Below.setRow ?_ ?_ _ | with_reducible refine below_step (by assumption) ?_ ?_ | (show (_ : Nat) ≤ _; first | omega | (simp <;> omega)))⟩)
                    case measure => simp [intOf]; omega
            · have hke : k = 4 := by omega
              subst hke
              go_wp2
              go_roundw
              case rel => first | exact ⟨j + 1, _, by omega, by go_num, rfl, by rw [HA2.out, HNX.out, HA.out] <;> simp, by repeat' (first | with_reducible exact Below.refl _ _ | with_reducible assumption | with_reducible refine Below.drew ?_ | with_reducible refine Below.drewN ?_ _ | with_reducible refine Below.alloc ?_ ?_ _ | with_reducible refine Below.setCell ?_ ?_ _ | with_reducible refine Below.setRow ?_ ?_ _ | with_reducible refine below_step (by assumption) ?_ ?_ | (show (_ : Nat) ≤ _; first | omega | (simp <;> omega)))⟩ | ((repeat (with_reducible apply Exists.intro)); refine And.intro ?_ ?_; rotate_left; (focus ((repeat' (with_reducible apply And.intro)) <;> rfl)); exact ⟨j + 1, _, by omega, by go_num, rfl, by rw [HA2.out, HNX.out, HA.out] <;> simp, by repeat' (first | with_reducible exact Below.refl _ _ | with_reducible assumption | with_reducible refine Below.drew ?_ | with_reducible refine Below.drewN ?_ _ | with_reducible refine Below.alloc ?_ ?_ _ | with_reducible refine Below.setCell ?_ ?_ _ | with_reducible refine Below.setRow ?_ ?_ _ | with_reducible refine below_step (by assumption) ?_ ?_ | (show (_ : Nat) ≤ _; first | omega | (simp <;> omega)))⟩)
              case measure => simp [intOf]; omega
        · have hje : n - 1 = j := by omega
          have HE := Lib.hid (show pathTx f n = acc by rw [HPT.out, hje, HA.out])
          have hm9 : ¬ ((j : Int) + 1 < (n : Int)) := by omega
          go_wp2
          go_ret
          exact ⟨by rw [HE.out]; rfl, by repeat' (first | with_reducible exact Below.refl _ _ | with_reducible assumption | with_reducible refine Below.drew ?_ | with_reducible refine Below.drewN ?_ _ | with_reducible refine Below.alloc ?_ ?_ _ | with_reducible refine Below.setCell ?_ ?_ _ | with_reducible refine Below.setRow ?_ ?_ _ | with_reducible refine below_step (by assumption) ?_ ?_ | (show (_ : Nat) ≤ _; first | omega | (simp <;> omega)))⟩
    · have HG := Lib.hid (gap_no hgap)
      have hgi : ¬ (1 : Int) < (n : Int) := by omega
      go_wp2
      clear hgap hgi a1 a2
      go_loopw [4, 3] (fun i s wr => ∃ (j : Nat) (acc : List UInt8), j + 1 ≤ n ∧ i = .int .i64 ((j : Int) + 1) ∧ s = .string (tx acc) ∧ acc = headTx f ++ gapTx n ++ stepsTx f j ∧ Below w.heap.size w wr) (fun i s wr => n + 1 - (intOf i).toNat)
      case atStart => exact ⟨0, _, by omega, rfl, rfl, by rw [HHD.out, HG.out] <;> simp [stepsTx], by repeat' (first | with_reducible exact Below.refl _ _ | with_reducible assumption | with_reducible refine Below.drew ?_ | with_reducible refine Below.drewN ?_ _ | with_reducible refine Below.alloc ?_ ?_ _ | with_reducible refine Below.setCell ?_ ?_ _ | with_reducible refine Below.setRow ?_ ?_ _ | with_reducible refine below_step (by assumption) ?_ ?_ | (show (_ : Nat) ≤ _; first | omega | (simp <;> omega)))⟩
      case round =>
        obtain ⟨j, acc, hj, rfl, rfl, hacc, hb⟩ := hrel
        have hal : acc.length ≤ 4 * j + 4 := by rw [hacc, HHD.out, HG.out]; have := stepsTx_len f j; simp; omega
        have HA := Lib.hid hacc
        clear hacc
        have hsz := hb.size
        by_cases hlt : j + 1 < n
        · have hxy := HF.out j (by omega)
          have huv := HF.out (j + 1) hlt
          have e1 := HC.out (j * 2) (by omega)
          have e2 := HC.out (j * 2 + 1) (by omega)
          have e3 := HC.out ((j + 1) * 2) (by omega)
          have e4 := HC.out ((j + 1) * 2 + 1) (by omega)
          have HNX := Lib.hid (show stepsTx f (j + 1) = stepsTx f j ++ dirK (f (j * 2)) (f (j * 2 + 1)) (f ((j + 1) * 2)) (f ((j + 1) * 2 + 1)) 4 from rfl)
          generalize f (j * 2) = x1 at e1 HNX hxy
          generalize f (j * 2 + 1) = y1 at e2 HNX hxy
          generalize f ((j + 1) * 2) = x2 at e3 HNX huv
          generalize f ((j + 1) * 2 + 1) = y2 at e4 HNX huv
          rw [← Nat.add_assoc] at e2 e4
          have hms : ((j : Int) + 1) - 1 = (j : Int) := by omega
          have hwm : IntKind.i64.wrap (j : Int) = (j : Int) := IntWalk.i64_in _ (by omega)
          have hm1 : ¬ n ≤ j := by omega
          have hm2 : ¬ ((j : Int) + 1 < 0) := by omega
          have hm3 : ¬ n ≤ j + 1 := by omega
          have hm4 : ¬ n < j + 1 := by omega
          have hm6 : (0 : Int) ≤ (j : Int) := by omega
          have hm7 : (j : Int) < (n : Int) := by omega
          have hm8 : (0 : Int) ≤ (j : Int) + 1 := by omega
          have hm9 : (j : Int) + 1 < (n : Int) := by omega
          go_wp2
          go_loopw [5, 3] (fun i s wx => ∃ (k : Nat) (ac2 : List UInt8), k ≤ 4 ∧ i = .int .i64 k ∧ s = .string (tx ac2) ∧ ac2 = acc ++ dirK x1 y1 x2 y2 k ∧ Below w.heap.size w wx) (fun i s wx => 5 - (intOf i).toNat)
          case atStart => exact ⟨0, _, by omega, rfl, rfl, by simp [dirK], by repeat' (first | with_reducible exact Below.refl _ _ | with_reducible assumption | with_reducible refine Below.drew ?_ | with_reducible refine Below.drewN ?_ _ | with_reducible refine Below.alloc ?_ ?_ _ | with_reducible refine Below.setCell ?_ ?_ _ | with_reducible refine Below.setRow ?_ ?_ _ | with_reducible refine below_step (by assumption) ?_ ?_ | (show (_ : Nat) ≤ _; first | omega | (simp <;> omega)))⟩
          case round =>
            obtain ⟨k, ac2, hk, rfl, rfl, hac2, hb2⟩ := hrel
            have hal2 : ac2.length ≤ 4 * j + 8 := by rw [hac2]; have := dirK_len x1 y1 x2 y2 k; simp; omega
            have hal3 : ac2.length + 1 ≤ 9223372036854775807 := by omega
            have hal4 : ¬ 9223372036854775807 < ac2.length + 1 := by omega
            have HA2 := Lib.hid hac2
            clear hac2
            have hsz2 := hb2.size
            have hr1 := keep_row hb2 hg
            rw [← hr1] at e1 e2 e3 e4
            clear hr1
            have hgw : g < wr.heap.size := Nat.lt_of_lt_of_le hg hsz2
            by_cases hk4 : k < 4
            · have hd4 : decide ((k : Int) < 4) = true := decide_eq_true (by omega)
              have HX := Lib.hid (fun w => l01Next_any k hk4 x1 y1 (by omega) (by omega) w)
              rcases Bool.eq_false_or_eq_true (sameP (nx k x1 y1) x2 y2) with hs | hs
              · have HY := Lib.hid (dirK_yes hs)
                generalize nx k x1 y1 = p at *
                obtain ⟨px, py⟩ := p
                have hs2 : px = x2 ∧ py = y2 := by simpa [sameP] using hs
                obtain ⟨rfl, rfl⟩ := hs2
                clear hs
                rcases (show k = 0 ∨ k = 1 ∨ k = 2 ∨ k = 3 by omega) with rfl | rfl | rfl | rfl
                all_goals
                  go_wp2
                  go_region_held3 (fun w' => (rowOf w' g)[o + j * 2]? = some (.int .i8 x1) ∧ (rowOf w' g)[o + j * 2 + 1]? = some (.int .i8 y1) ∧ (rowOf w' g)[o + (j + 1) * 2]? = some (.int .i8 px) ∧ (rowOf w' g)[o + (j + 1) * 2 + 1]? = some (.int .i8 py)) (go_simp) ((go_at_call 77; refine (HX.out _).mono ?_; rintro e w1 ⟨rfl, hb1⟩; have r1 := keep_rowA hb1; have f1 := keep_frA hb1; have s1 := hb1.size; (try simp only [World.size_alloc, World.size_setCell, setRow_size, World.size_drew, size_drewNm] at r1 f1 s1)))
                  all_goals
                    go_wp2
                    go_roundw
                    case rel => first | first | exact ⟨1, _, by omega, by go_num, rfl, by rw [HY.out, HA2.out, by_110, show dirB 0 = 110 from rfl]; simp, by repeat' (first | with_reducible exact Below.refl _ _ | with_reducible assumption | with_reducible refine Below.drew ?_ | with_reducible refine Below.drewN ?_ _ | with_reducible refine Below.alloc ?_ ?_ _ | with_reducible refine Below.setCell ?_ ?_ _ | with_reducible refine Below.setRow ?_ ?_ _ | with_reducible refine below_step (by assumption) ?_ ?_ | (show (_ : Nat) ≤ _; first | omega | (simp <;> omega)))⟩ | ((repeat (with_reducible apply Exists.intro)); refine And.intro ?_ ?_; rotate_left; (focus ((repeat' (with_reducible apply And.intro)) <;> rfl)); exact ⟨1, _, by omega, by go_num, rfl, by rw [HY.out, HA2.out, by_110, show dirB 0 = 110 from rfl]; simp, by repeat' (first | with_reducible exact Below.refl _ _ | with_reducible assumption | with_reducible refine Below.drew ?_ | with_reducible refine Below.drewN ?_ _ | with_reducible refine Below.alloc ?_ ?_ _ | with_reducible refine Below.setCell ?_ ?_ _ | with_reducible refine Below.setRow ?_ ?_ _ | with_reducible refine below_step (by assumption) ?_ ?_ | (show (_ : Nat) ≤ _; first | omega | (simp <;> omega)))⟩) | first | exact ⟨2, _, by omega, by go_num, rfl, by rw [HY.out, HA2.out, by_101, show dirB 1 = 101 from rfl]; simp, by repeat' (first | with_reducible exact Below.refl _ _ | with_reducible assumption | with_reducible refine Below.drew ?_ | with_reducible refine Below.drewN ?_ _ | with_reducible refine Below.alloc ?_ ?_ _ | with_reducible refine Below.setCell ?_ ?_ _ | with_reducible refine Below.setRow ?_ ?_ _ | with_reducible refine below_step (by assumption) ?_ ?_ | (show (_ : Nat) ≤ _; first | omega | (simp <;> omega)))⟩ | ((repeat (with_reducible apply Exists.intro)); refine And.intro ?_ ?_; rotate_left; (focus ((repeat' (with_reducible apply And.intro)) <;> rfl)); exact ⟨2, _, by omega, by go_num, rfl, by rw [HY.out, HA2.out, by_101, show dirB 1 = 101 from rfl]; simp, by repeat' (first | with_reducible exact Below.refl _ _ | with_reducible assumption | with_reducible refine Below.drew ?_ | with_reducible refine Below.drewN ?_ _ | with_reducible refine Below.alloc ?_ ?_ _ | with_reducible refine Below.setCell ?_ ?_ _ | with_reducible refine Below.setRow ?_ ?_ _ | with_reducible refine below_step (by assumption) ?_ ?_ | (show (_ : Nat) ≤ _; first | omega | (simp <;> omega)))⟩) | first | exact ⟨3, _, by omega, by go_num, rfl, by rw [HY.out, HA2.out, by_115, show dirB 2 = 115 from rfl]; simp, by repeat' (first | with_reducible exact Below.refl _ _ | with_reducible assumption | with_reducible refine Below.drew ?_ | with_reducible refine Below.drewN ?_ _ | with_reducible refine Below.alloc ?_ ?_ _ | with_reducible refine Below.setCell ?_ ?_ _ | with_reducible refine Below.setRow ?_ ?_ _ | with_reducible refine below_step (by assumption) ?_ ?_ | (show (_ : Nat) ≤ _; first | omega | (simp <;> omega)))⟩ | ((repeat (with_reducible apply Exists.intro)); refine And.intro ?_ ?_; rotate_left; (focus ((repeat' (with_reducible apply And.intro)) <;> rfl)); exact ⟨3, _, by omega, by go_num, rfl, by rw [HY.out, HA2.out, by_115, show dirB 2 = 115 from rfl]; simp, by repeat' (first | with_reducible exact Below.refl _ _ | with_reducible assumption | with_reducible refine Below.drew ?_ | with_reducible refine Below.drewN ?_ _ | with_reducible refine Below.alloc ?_ ?_ _ | with_reducible refine Below.setCell ?_ ?_ _ | with_reducible refine Below.setRow ?_ ?_ _ | with_reducible refine below_step (by assumption) ?_ ?_ | (show (_ : Nat) ≤ _; first | omega | (simp <;> omega)))⟩) | first | exact ⟨4, _, by omega, by go_num, rfl, by rw [HY.out, HA2.out, by_119, show dirB 3 = 119 from rfl]; simp, by repeat' (first | with_reducible exact Below.refl _ _ | with_reducible assumption | with_reducible refine Below.drew ?_ | with_reducible refine Below.drewN ?_ _ | with_reducible refine Below.alloc ?_ ?_ _ | with_reducible refine Below.setCell ?_ ?_ _ | with_reducible refine Below.setRow ?_ ?_ _ | with_reducible refine below_step (by assumption) ?_ ?_ | (show (_ : Nat) ≤ _; first | omega | (simp <;> omega)))⟩ | ((repeat (with_reducible apply Exists.intro)); refine And.intro ?_ ?_; rotate_left; (focus ((repeat' (with_reducible apply And.intro)) <;> rfl)); exact ⟨4, _, by omega, by go_num, rfl, by rw [HY.out, HA2.out, by_119, show dirB 3 = 119 from rfl]; simp, by repeat' (first | with_reducible exact Below.refl _ _ | with_reducible assumption | with_reducible refine Below.drew ?_ | with_reducible refine Below.drewN ?_ _ | with_reducible refine Below.alloc ?_ ?_ _ | with_reducible refine Below.setCell ?_ ?_ _ | with_reducible refine Below.setRow ?_ ?_ _ | with_reducible refine below_step (by assumption) ?_ ?_ | (show (_ : Nat) ≤ _; first | omega | (simp <;> omega)))⟩)
                    case measure => simp [intOf]
              · have HN := Lib.hid (dirK_no hs)
                generalize nx k x1 y1 = p at HX hs
                obtain ⟨px, py⟩ := p
                by_cases h1 : px = x2
                · subst h1
                  have h2 : ¬ py = y2 := by simpa [sameP] using hs
                  have h2b : (py == y2) = false := by simpa using h2
                  have h2d : decide (py = y2) = false := decide_eq_false h2
                  clear hs h2
                  go_wp2
                  go_region_held3 (fun w' => (rowOf w' g)[o + j * 2]? = some (.int .i8 x1) ∧ (rowOf w' g)[o + j * 2 + 1]? = some (.int .i8 y1) ∧ (rowOf w' g)[o + (j + 1) * 2]? = some (.int .i8 px) ∧ (rowOf w' g)[o + (j + 1) * 2 + 1]? = some (.int .i8 y2)) (go_simp) ((go_at_call 77; refine (HX.out _).mono ?_; rintro e w1 ⟨rfl, hb1⟩; have r1 := keep_rowA hb1; have f1 := keep_frA hb1; have s1 := hb1.size; (try simp only [World.size_alloc, World.size_setCell, setRow_size, World.size_drew, size_drewNm] at r1 f1 s1)))
                  all_goals
                    go_wp2
                    go_roundw
                    case rel => first | exact ⟨k + 1, _, by omega, by go_num, rfl, by rw [HN.out, HA2.out], by repeat' (first | with_reducible exact Below.refl _ _ | with_reducible assumption | with_reducible refine Below.drew ?_ | with_reducible refine Below.drewN ?_ _ | with_reducible refine Below.alloc ?_ ?_ _ | with_reducible refine Below.setCell ?_ ?_ _ | with_reducible refine Below.setRow ?_ ?_ _ | with_reducible refine below_step (by assumption) ?_ ?_ | (show (_ : Nat) ≤ _; first | omega | (simp <;> omega)))⟩ | ((repeat (with_reducible apply Exists.intro)); refine And.intro ?_ ?_; rotate_left; (focus ((repeat' (with_reducible apply And.intro)) <;> rfl)); exact ⟨k + 1, _, by omega, by go_num, rfl, by rw [HN.out, HA2.out], by repeat' (first | with_reducible exact Below.refl _ _ | with_reducible assumption | with_reducible refine Below.drew ?_ | with_reducible refine Below.drewN ?_ _ | with_reducible refine Below.alloc ?_ ?_ _ | with_reducible refine Below.setCell ?_ ?_ _ | with_reducible refine Below.setRow ?_ ?_ _ | with_reducible refine below_step (by assumption) ?_ ?_ | (show (_ : Nat) ≤ _; first | omega | (simp <;> omega)))⟩)
                    case measure => simp [intOf]; omega
                · have h2b : (px == x2) = false := by simpa using h1
                  have h2d : decide (px = x2) = false := decide_eq_false h1
                  clear hs h1
                  go_wp2
                  go_region_held3 (fun w' => (rowOf w' g)[o + j * 2]? = some (.int .i8 x1) ∧ (rowOf w' g)[o + j * 2 + 1]? = some (.int .i8 y1) ∧ (rowOf w' g)[o + (j + 1) * 2]? = some (.int .i8 x2) ∧ (rowOf w' g)[o + (j + 1) * 2 + 1]? = some (.int .i8 y2)) (go_simp) ((go_at_call 77; refine (HX.out _).mono ?_; rintro e w1 ⟨rfl, hb1⟩; have r1 := keep_rowA hb1; have f1 := keep_frA hb1; have s1 := hb1.size; (try simp only [World.size_alloc, World.size_setCell, setRow_size, World.size_drew, size_drewNm] at r1 f1 s1)))
                  all_goals
                    go_wp2
                    go_roundw
                    case rel => first | exact ⟨k + 1, _, by omega, by go_num, rfl, by rw [HN.out, HA2.out], by repeat' (first | with_reducible exact Below.refl _ _ | with_reducible assumption | with_reducible refine Below.drew ?_ | with_reducible refine Below.drewN ?_ _ | with_reducible refine Below.alloc ?_ ?_ _ | with_reducible refine Below.setCell ?_ ?_ _ | with_reducible refine Below.setRow ?_ ?_ _ | with_reducible refine below_step (by assumption) ?_ ?_ | (show (_ : Nat) ≤ _; first | omega | (simp <;> omega)))⟩ | ((repeat (with_reducible apply Exists.intro)); refine And.intro ?_ ?_; rotate_left; (focus ((repeat' (with_reducible apply And.intro)) <;> rfl)); exact ⟨k + 1, _, by omega, by go_num, rfl, by rw [HN.out, HA2.out], by repeat' (first | with_reducible exact Below.refl _ _ | with_reducible assumption | with_reducible refine Below.drew ?_ | with_reducible refine Below.drewN ?_ _ | with_reducible refine Below.alloc ?_ ?_ _ | with_reducible refine Below.setCell ?_ ?_ _ | with_reducible refine Below.setRow ?_ ?_ _ | with_reducible refine below_step (by assumption) ?_ ?_ | (show (_ : Nat) ≤ _; first | omega | (simp <;> omega)))⟩)
                    case measure => simp [intOf]; omega
            · have hke : k = 4 := by omega
              subst hke
              go_wp2
              go_roundw
              case rel => first | exact ⟨j + 1, _, by omega, by go_num, rfl, by rw [HA2.out, HNX.out, HA.out] <;> simp, by repeat' (first | with_reducible exact Below.refl _ _ | with_reducible assumption | with_reducible refine Below.drew ?_ | with_reducible refine Below.drewN ?_ _ | with_reducible refine Below.alloc ?_ ?_ _ | with_reducible refine Below.setCell ?_ ?_ _ | with_reducible refine Below.setRow ?_ ?_ _ | with_reducible refine below_step (by assumption) ?_ ?_ | (show (_ : Nat) ≤ _; first | omega | (simp <;> omega)))⟩ | ((repeat (with_reducible apply Exists.intro)); refine And.intro ?_ ?_; rotate_left; (focus ((repeat' (with_reducible apply And.intro)) <;> rfl)); exact ⟨j + 1, _, by omega, by go_num, rfl, by rw [HA2.out, HNX.out, HA.out] <;> simp, by repeat' (first | with_reducible exact Below.refl _ _ | with_reducible assumption | with_reducible refine Below.drew ?_ | with_reducible refine Below.drewN ?_ _ | with_reducible refine Below.alloc ?_ ?_ _ | with_reducible refine Below.setCell ?_ ?_ _ | with_reducible refine Below.setRow ?_ ?_ _ | with_reducible refine below_step (by assumption) ?_ ?_ | (show (_ : Nat) ≤ _; first | omega | (simp <;> omega)))⟩)
              case measure => simp [intOf]; omega
        · have hje : n - 1 = j := by omega
          have HE := Lib.hid (show pathTx f n = acc by rw [HPT.out, hje, HA.out])
          have hm9 : ¬ ((j : Int) + 1 < (n : Int)) := by omega
          go_wp2
          go_ret
          exact ⟨by rw [HE.out]; rfl, by repeat' (first | with_reducible exact Below.refl _ _ | with_reducible assumption | with_reducible refine Below.drew ?_ | with_reducible refine Below.drewN ?_ _ | with_reducible refine Below.alloc ?_ ?_ _ | with_reducible refine Below.setCell ?_ ?_ _ | with_reducible refine Below.setRow ?_ ?_ _ | with_reducible refine below_step (by assumption) ?_ ?_ | (show (_ : Nat) ≤ _; first | omega | (simp <;> omega)))⟩
end Go.Proofs.YtbnhhjjhjjmmjaaDoor
