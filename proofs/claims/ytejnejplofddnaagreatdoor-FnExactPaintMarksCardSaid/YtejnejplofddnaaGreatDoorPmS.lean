/- A list has each index once: the reference's search. -/
import Derived.Test.YtejnejplofddnaaGreatDoorPrm
import Derived.Test.YtejnejplofddnaaGreatDoorGqC
import Derived.BigQuiet
import Derived.Deep.QuietTactic
namespace Go.Proofs.YtejnejplofddnaaGreatDoor
open Go.RowKit
set_option linter.unusedVariables false
set_option linter.unusedSimpArgs false
set_option maxRecDepth 100000
def hasB (f : Nat → Int) (k : Nat) (x : Int) : Bool := (List.range k).any fun j => f j == x
theorem hasB_yes {f : Nat → Int} {k j : Nat} {x : Int} (hj : j < k) (h : f j = x) : hasB f k x = true := by
  unfold hasB
  rw [List.any_eq_true]
  exact ⟨j, List.mem_range.2 hj, by rw [h]; simp⟩
theorem hasB_no {f : Nat → Int} {k : Nat} {x : Int} (h : ∀ j, j < k → f j ≠ x) : hasB f k x = false := by
  unfold hasB
  rw [List.any_eq_false]
  intro j hj
  have := h j (List.mem_range.1 hj)
  simpa using this
theorem hasB_all {f : Nat → Int} {k : Nat} {x : Int} (h : hasB f k x = false) : ∀ j, j < k → f j ≠ x := fun j hj e => by
  rw [hasB_yes hj e] at h; cases h
set_option maxHeartbeats 4000000 in
theorem l00Has_z (g k cap : Nat) (f : Nat → Int) (hk : k ≤ 1048576) (x : Int) (w : World) (hg : k = 0 ∨ g < w.heap.size) (hc : ∀ j, j < k → (rowOf w g)[j]? = some (.int .i64 (f j))) :
    Calls Tryz.prog 95 #[.slice (some ⟨g, 0, none⟩) k cap, .int .i64 x] w fun e w' => e = .returned (.bool (hasB f k x)) ∧ w' = w := by
  have HC := Lib.hid hc
  clear hc
  go_enter Tryz.func95, Tryz.ntmps95
  go_wp2
  go_loopw [5] (fun z wr => ∃ j : Nat, j ≤ k ∧ z = .int .i64 j ∧ w = wr ∧ ∀ i, i < j → f i ≠ x) (fun z wr => k + 1 - (intOf z).toNat)
  case atStart => exact ⟨0, by omega, rfl, rfl, fun j hj => absurd hj (by omega)⟩
  case round =>
    obtain ⟨j, hj, rfl, rfl, hno⟩ := hrel
    have HNO := Lib.hid hno
    clear hno
    by_cases hlt : j < k
    · have e0 := HC.out j hlt
      have hgw : g < w.heap.size := by omega
      have hlt2 : (j : Int) < (k : Int) := by omega
      have hw1 : IntKind.i64.wrap ((j : Int) + 1) = ((j + 1 : Nat) : Int) := by rw [IntWalk.i64_in _ (by omega)]; rfl
      obtain ⟨y, hy⟩ : ∃ y, f j = y := ⟨_, rfl⟩
      rw [hy] at e0
      by_cases hxy : y = x
      · subst hxy
        have HI := Lib.hid (hasB_yes hlt hy)
        clear hy
        go_wp2
        go_ret
        exact ⟨by rw [HI.out]; rfl, rfl⟩
      · have h1 : (y == x) = false := by rw [beq_eq_false_iff_ne]; exact hxy
        have HN := Lib.hid (show ∀ i, i < j + 1 → f i ≠ x from fun i hi => by
          rcases Nat.lt_succ_iff_lt_or_eq.1 hi with h | rfl
          · exact HNO.out i h
          · rw [hy]; exact hxy)
        clear hy
        go_wp2
        go_roundw
        case rel => first | exact ⟨j + 1, by omega, by go_num, (by first | rfl | trivial), HN.out⟩ | ((repeat (with_reducible apply Exists.intro)); refine And.intro ?_ ?_; rotate_left; (focus ((repeat' (with_reducible apply And.intro)) <;> rfl)); exact ⟨j + 1, by omega, by go_num, (by first | rfl | trivial), HN.out⟩)
        case measure => simp [intOf]; omega
    · have hje : j = k := by omega
      subst hje
      have HI := Lib.hid (hasB_no HNO.out)
      go_wp2
      go_ret
      exact ⟨by rw [HI.out]; rfl, rfl⟩
theorem l00In_qo (n lo hi : Int) (w : World) : Calls Tryz.prog 72 #[.int .i64 n, .int .i64 lo, .int .i64 hi] w fun e w' => e = .returned (.bool (inB n lo hi)) ∧ w' = w := (l00In_any n lo hi w).mono fun _ _ ⟨h1, h2⟩ => ⟨h1, h2.symm⟩
set_option maxHeartbeats 8000000 in
theorem l06Order_any (ov : Value) (bo m n : Nat) (f : Nat → Int) (hm : m ≤ 1048576) (hn : n ≤ 1048576) (w : World) (ho : OwnK .i64 1 w bo ov m f) (hcap : ∀ a cap, ov = .slice a m cap → m ≤ cap) :
    Calls Tryz.prog 45 #[.int .i64 (n : Int), ov] w fun e w' => e = .returned (.bool (prmB f m n)) ∧ Below w.heap.size w w' := by
  have HO := Lib.hid ho
  obtain ⟨ao, cp, rfl⟩ := ho.len
  have hcp := hcap ao cp rfl
  clear ho hcap
  have hw2 : IntKind.i64.wrap ((n : Int) - 1) = (n : Int) - 1 := IntWalk.i64_in _ (by omega)
  go_enter Tryz.func45, Tryz.ntmps45
  go_wp2
  go_loopw [5] (fun z wr => ∃ k : Nat, k ≤ m ∧ z = .int .i64 k ∧ Below w.heap.size w wr ∧ PrmTo f n k) (fun z wr => m + 1 - (intOf z).toNat)
  case atStart => exact ⟨0, by omega, rfl, by repeat' (first | with_reducible exact Below.refl _ _ | with_reducible assumption | with_reducible refine Below.drew ?_ | with_reducible refine Below.drewN ?_ _ | with_reducible refine Below.alloc ?_ ?_ _ | with_reducible refine Below.setCell ?_ ?_ _ | with_reducible refine Below.setRow ?_ ?_ _ | with_reducible refine below_step (by assumption) ?_ ?_ | (show (_ : Nat) ≤ _; first | omega | (simp <;> omega))), ⟨fun i hi => absurd hi (by omega), fun j hj => absurd hj (by omega)⟩⟩
  case round =>
    obtain ⟨k, hk, rfl, hb, hpt⟩ := hrel
    have HPT := Lib.hid hpt
    have hszb := hb.size
    clear hpt
    by_cases hlt : k < m
    · obtain ⟨g, cap', hv, -, hgw0, -, -, hc⟩ := HO.out.pos (by omega)
      simp only [Value.slice.injEq] at hv
      obtain ⟨rfl, -, rfl⟩ := hv
      have HC := Lib.hid hc
      have hgw : g < wr.heap.size := by omega
      have e0 := HC.out k (by omega)
      rw [← keep_row hb hgw0] at e0
      clear hc
      have hlt2 : (k : Int) < (m : Int) := by omega
      have hw1 : IntKind.i64.wrap ((k : Int) + 1) = ((k + 1 : Nat) : Int) := by rw [IntWalk.i64_in _ (by omega)]; rfl
      have HIN0 := fun w => l00In_qo (f k) 0 ((n : Int) - 1) w
      have HHS0 := fun q => l00Has_z g k cp f (by omega) (f k) (wr.drewN q) (.inr (by simpa using hgw)) (fun j hj => by
        have := HC.out j (by omega)
        rw [← keep_row hb hgw0] at this
        exact this)
      have q1 : ¬ cp < k := by omega
      have q2 : ¬ cp = 0 := by omega
      have q3 : k ≤ cp := by omega
      rcases Bool.eq_false_or_eq_true (inB (f k) 0 ((n : Int) - 1)) with hA | hA
      case inr =>
        have HV := Lib.hid (prm_no (f := f) (m := m) (n := n) (fun h => by
          have h2 := h.2.1 k hlt
          have : inB (f k) 0 ((n : Int) - 1) = true := inB_true.2 (by omega)
          rw [this] at hA; cases hA))
        rw [hA] at HIN0
        have HIN := Lib.hid HIN0
        clear HIN0 HHS0 hA
        generalize f k = y at *
        go_wp2
        go_quiet ((go_at_call 72; with_reducible exact Calls.quiet_of_same (HIN.out _)))
        go_wp2
        go_ret
        exact ⟨by rw [HV.out]; rfl, by repeat' (first | with_reducible exact Below.refl _ _ | with_reducible assumption | with_reducible refine Below.drew ?_ | with_reducible refine Below.drewN ?_ _ | with_reducible refine Below.alloc ?_ ?_ _ | with_reducible refine Below.setCell ?_ ?_ _ | with_reducible refine Below.setRow ?_ ?_ _ | with_reducible refine below_step (by assumption) ?_ ?_ | (show (_ : Nat) ≤ _; first | omega | (simp <;> omega)))⟩
      have hA1 := inB_true.1 hA
      rw [hA] at HIN0
      have HIN := Lib.hid HIN0
      clear HIN0 hA
      rcases Bool.eq_false_or_eq_true (hasB f k (f k)) with hB | hB
      · have HV := Lib.hid (prm_no (f := f) (m := m) (n := n) (fun h => by
          have h3 := h.2.2 k hlt
          rw [hasB_no h3] at hB; cases hB))
        rw [hB] at HHS0
        have HHS := Lib.hid HHS0
        clear HHS0 hB
        generalize f k = y at *
        go_wp2
        go_quiet (first | (go_at_call 72; with_reducible exact Calls.quiet_of_same (HIN.out _)) | (go_at_call 95; with_reducible exact Calls.quiet_of_same (HHS.out _)))
        go_wp2
        go_ret
        exact ⟨by rw [HV.out]; rfl, by repeat' (first | with_reducible exact Below.refl _ _ | with_reducible assumption | with_reducible refine Below.drew ?_ | with_reducible refine Below.drewN ?_ _ | with_reducible refine Below.alloc ?_ ?_ _ | with_reducible refine Below.setCell ?_ ?_ _ | with_reducible refine Below.setRow ?_ ?_ _ | with_reducible refine below_step (by assumption) ?_ ?_ | (show (_ : Nat) ≤ _; first | omega | (simp <;> omega)))⟩
      · have HN := Lib.hid (prmTo_next HPT.out (show 0 ≤ f k ∧ f k < (n : Int) by omega) (hasB_all hB))
        rw [hB] at HHS0
        have HHS := Lib.hid HHS0
        clear HHS0 hB
        generalize f k = y at *
        go_wp2
        go_quiet (first | (go_at_call 72; with_reducible exact Calls.quiet_of_same (HIN.out _)) | (go_at_call 95; with_reducible exact Calls.quiet_of_same (HHS.out _)))
        go_wp2
        go_roundw
        case rel => first | exact ⟨k + 1, by omega, by go_num, by repeat' (first | with_reducible exact Below.refl _ _ | with_reducible assumption | with_reducible refine Below.drew ?_ | with_reducible refine Below.drewN ?_ _ | with_reducible refine Below.alloc ?_ ?_ _ | with_reducible refine Below.setCell ?_ ?_ _ | with_reducible refine Below.setRow ?_ ?_ _ | with_reducible refine below_step (by assumption) ?_ ?_ | (show (_ : Nat) ≤ _; first | omega | (simp <;> omega))), HN.out⟩ | ((repeat (with_reducible apply Exists.intro)); refine And.intro ?_ ?_; rotate_left; (focus ((repeat' (with_reducible apply And.intro)) <;> rfl)); exact ⟨k + 1, by omega, by go_num, by repeat' (first | with_reducible exact Below.refl _ _ | with_reducible assumption | with_reducible refine Below.drew ?_ | with_reducible refine Below.drewN ?_ _ | with_reducible refine Below.alloc ?_ ?_ _ | with_reducible refine Below.setCell ?_ ?_ _ | with_reducible refine Below.setRow ?_ ?_ _ | with_reducible refine below_step (by assumption) ?_ ?_ | (show (_ : Nat) ≤ _; first | omega | (simp <;> omega))), HN.out⟩)
        case measure => simp [intOf]; omega
    · have hke : k = m := by omega
      subst hke
      by_cases hmn : k = n
      · have HV := Lib.hid (prm_yes (f := f) (m := k) (n := n) ⟨hmn, HPT.out.1, HPT.out.2⟩)
        subst hmn
        go_wp2
        go_ret
        exact ⟨by rw [HV.out]; rfl, by repeat' (first | with_reducible exact Below.refl _ _ | with_reducible assumption | with_reducible refine Below.drew ?_ | with_reducible refine Below.drewN ?_ _ | with_reducible refine Below.alloc ?_ ?_ _ | with_reducible refine Below.setCell ?_ ?_ _ | with_reducible refine Below.setRow ?_ ?_ _ | with_reducible refine below_step (by assumption) ?_ ?_ | (show (_ : Nat) ≤ _; first | omega | (simp <;> omega)))⟩
      · have HV := Lib.hid (prm_no (f := f) (m := k) (n := n) (fun h => hmn h.1))
        have h1 : ((k : Int) == (n : Int)) = false := by rw [beq_eq_false_iff_ne]; omega
        have h2 : ¬ (k : Int) = (n : Int) := by omega
        go_wp2
        go_ret
        exact ⟨by rw [HV.out]; rfl, by repeat' (first | with_reducible exact Below.refl _ _ | with_reducible assumption | with_reducible refine Below.drew ?_ | with_reducible refine Below.drewN ?_ _ | with_reducible refine Below.alloc ?_ ?_ _ | with_reducible refine Below.setCell ?_ ?_ _ | with_reducible refine Below.setRow ?_ ?_ _ | with_reducible refine below_step (by assumption) ?_ ?_ | (show (_ : Nat) ≤ _; first | omega | (simp <;> omega)))⟩
end Go.Proofs.YtejnejplofddnaaGreatDoor
