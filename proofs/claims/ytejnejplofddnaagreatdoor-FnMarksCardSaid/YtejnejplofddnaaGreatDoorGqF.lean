/- Several texts in one: Prm PmS PmT PmI. -/
import Derived.Test.YtejnejplofddnaaGreatDoorCov
import Derived.Test.YtejnejplofddnaaGreatDoorGqC
import Derived.BigQuiet
import Derived.Deep.QuietTactic
import Derived.Test.YtejnejplofddnaaGreatDoorSrt
import Derived.Test.YtejnejplofddnaaGreatDoorGqK
import Derived.Test.YtejnejplofddnaaGreatDoorGqV
import Derived.Test.YtejnejplofddnaaGreatDoorWaterI
/- A list has each index once: by search, and by sorting. No program. -/
namespace Go.Proofs.YtejnejplofddnaaGreatDoor
open Go.RowKit
set_option linter.unusedVariables false
set_option linter.unusedSimpArgs false
set_option maxRecDepth 100000
def InRg (f : Nat → Int) (m n : Nat) : Prop := ∀ i, i < m → 0 ≤ f i ∧ f i < n
def DisT (f : Nat → Int) (m : Nat) : Prop := ∀ j, j < m → ∀ i, i < j → f i ≠ f j
/-- A list has each index once. -/
def PrmP (f : Nat → Int) (m n : Nat) : Prop := m = n ∧ InRg f m n ∧ DisT f m
open Classical in
noncomputable def prmB (f : Nat → Int) (m n : Nat) : Bool := decide (PrmP f m n)
def fL (f : Nat → Int) (m : Nat) : List Int := (List.range m).map f
theorem fL_len (f : Nat → Int) (m : Nat) : (fL f m).length = m := by unfold fL; simp
theorem fL_at {f : Nat → Int} {m i : Nat} (h : i < m) : (fL f m)[i]'(by rw [fL_len]; exact h) = f i := by unfold fL; simp
theorem fL_nodup {f : Nat → Int} {m : Nat} : (fL f m).Nodup ↔ DisT f m := by
  unfold List.Nodup
  rw [List.pairwise_iff_getElem]
  constructor
  · intro h j hj i hi e
    refine h i j (by rw [fL_len]; omega) (by rw [fL_len]; omega) hi ?_
    rw [fL_at (by omega), fL_at hj]; exact e
  · intro h i j hi hj hij
    rw [fL_len] at hi hj
    rw [fL_at hi, fL_at hj]
    exact h j hj i hij
theorem sorted_id {f : Nat → Int} {m n : Nat} {L : List Int} (hp : L.Perm (fL f m)) (hs : L.Pairwise (· ≤ ·)) : ((∀ i (h : i < L.length), L[i] = (i : Int)) ∧ m = n) ↔ PrmP f m n := by
  have hlen : L.length = m := by rw [hp.length_eq, fL_len]
  constructor
  · rintro ⟨h, rfl⟩
    have hnd : L.Nodup := by
      unfold List.Nodup
      rw [List.pairwise_iff_getElem]
      intro i j hi hj hij
      rw [h i hi, h j hj]
      omega
    refine ⟨rfl, fun i hi => ?_, fL_nodup.1 (hp.nodup_iff.1 hnd)⟩
    have hm : f i ∈ L := hp.mem_iff.2 (by unfold fL; exact List.mem_map.2 ⟨i, List.mem_range.2 hi, rfl⟩)
    obtain ⟨k, hk, e⟩ := List.getElem_of_mem hm
    rw [h k hk] at e
    omega
  · rintro ⟨rfl, hr, hd⟩
    refine ⟨?_, rfl⟩
    have hnd : L.Nodup := hp.nodup_iff.2 (fL_nodup.2 hd)
    have hlt : ∀ i j (hi : i < L.length) (hj : j < L.length), i < j → L[i] < L[j] := fun i j hi hj hij => by
      have h1 := (List.pairwise_iff_getElem.1 hs) i j hi hj hij
      have h2 := (List.pairwise_iff_getElem.1 hnd) i j hi hj hij
      omega
    have hin : ∀ i (hi : i < L.length), 0 ≤ L[i] ∧ L[i] < m := fun i hi => by
      have hm := hp.mem_iff.1 (List.getElem_mem hi)
      unfold fL at hm
      obtain ⟨k, hk, e⟩ := List.mem_map.1 hm
      have := hr k (List.mem_range.1 hk)
      omega
    have hge : ∀ i (hi : i < L.length), (i : Int) ≤ L[i] := by
      intro i
      induction i with
      | zero => intro hi; exact (hin 0 hi).1
      | succ i ih =>
        intro hi
        have h1 := ih (by omega)
        have h2 := hlt i (i + 1) (by omega) hi (by omega)
        omega
    have hle : ∀ d i (hi : i + d < L.length), L[i]'(by omega) + d ≤ L[i + d] := by
      intro d
      induction d with
      | zero => intro i hi; simp
      | succ d ih =>
        intro i hi
        have h1 := ih i (by omega)
        have h2 := hlt (i + d) (i + (d + 1)) (by omega) hi (by omega)
        omega
    intro i hi
    have h1 := hge i hi
    have h2 := hle (L.length - 1 - i) i (by omega)
    have h3 := (hin (i + (L.length - 1 - i)) (by omega)).2
    omega
/-- The order as indices. -/
def orL (f : Nat → Int) (m : Nat) : List Nat := (List.range m).map fun i => (f i).toNat
theorem orL_len (f : Nat → Int) (m : Nat) : (orL f m).length = m := by unfold orL; simp
theorem orL_at {f : Nat → Int} {m n i : Nat} (h : i < m) (hr : InRg f m n) : ((((orL f m).getD i 0 : Nat)) : Int) = f i := by
  unfold orL
  rw [List.getD_eq_getElem?_getD, List.getElem?_map, List.getElem?_range h]
  have := (hr i h).1
  simp; omega
theorem orL_in {f : Nat → Int} {m n : Nat} (hr : InRg f m n) : ∀ i ∈ orL f m, i < n := fun i hi => by
  unfold orL at hi
  obtain ⟨k, hk, rfl⟩ := List.mem_map.1 hi
  have := hr k (List.mem_range.1 hk)
  omega
/-- A list in the midst of the search. -/
def PrmTo (f : Nat → Int) (n k : Nat) : Prop := InRg f k n ∧ DisT f k
theorem prmTo_next {f : Nat → Int} {n k : Nat} (h : PrmTo f n k) (h1 : 0 ≤ f k ∧ f k < n) (h2 : ∀ i, i < k → f i ≠ f k) : PrmTo f n (k + 1) := by
  refine ⟨fun i hi => ?_, fun j hj i hi => ?_⟩
  · rcases Nat.lt_succ_iff_lt_or_eq.1 hi with h3 | rfl
    · exact h.1 i h3
    · exact h1
  · rcases Nat.lt_succ_iff_lt_or_eq.1 hj with h3 | rfl
    · exact h.2 j h3 i hi
    · exact h2 i hi
open Classical in
theorem prm_no {f : Nat → Int} {m n : Nat} (h : ¬ PrmP f m n) : prmB f m n = false := decide_eq_false h
open Classical in
theorem prm_yes {f : Nat → Int} {m n : Nat} (h : PrmP f m n) : prmB f m n = true := decide_eq_true h
end Go.Proofs.YtejnejplofddnaaGreatDoor
/- A list has each index once: the reference's search. -/
namespace Go.Proofs.YtejnejplofddnaaGreatDoor
open Go.RowKit
set_option linter.unusedVariables false
set_option linter.unusedSimpArgs false
set_option maxRecDepth 100000
def hasB (f : Nat → Int) (k : Nat) (x : Int) : Bool := (List.range k).any fun j => f j == x
theorem hasB_yes {f : Nat → Int} {k j : Nat} {x : Int} (hj : j < k) (h : f j = x) : hasB f k x = true := by
  unfold hasB
  rw [List.any_eq_true]
  exact ⟨j, List.mem_range.2 hj, by rw [h]; simp⟩
theorem hasB_no {f : Nat → Int} {k : Nat} {x : Int} (h : ∀ j, j < k → f j ≠ x) : hasB f k x = false := by
  unfold hasB
  rw [List.any_eq_false]
  intro j hj
  have := h j (List.mem_range.1 hj)
  simpa using this
theorem hasB_all {f : Nat → Int} {k : Nat} {x : Int} (h : hasB f k x = false) : ∀ j, j < k → f j ≠ x := fun j hj e => by
  rw [hasB_yes hj e] at h; cases h
set_option maxHeartbeats 4000000 in
theorem l00Has_z (g k cap : Nat) (f : Nat → Int) (hk : k ≤ 1048576) (x : Int) (w : World) (hg : k = 0 ∨ g < w.heap.size) (hc : ∀ j, j < k → (rowOf w g)[j]? = some (.int .i64 (f j))) :
    Calls Tryz.prog 95 #[.slice (some ⟨g, 0, none⟩) k cap, .int .i64 x] w fun e w' => e = .returned (.bool (hasB f k x)) ∧ w' = w := by
  have HC := Lib.hid hc
  clear hc
  go_enter Tryz.func95, Tryz.ntmps95
  go_wp2
  go_loopw [5] (fun z wr => ∃ j : Nat, j ≤ k ∧ z = .int .i64 j ∧ w = wr ∧ ∀ i, i < j → f i ≠ x) (fun z wr => k + 1 - (intOf z).toNat)
  case atStart => exact ⟨0, by omega, rfl, rfl, fun j hj => absurd hj (by omega)⟩
  case round =>
    obtain ⟨j, hj, rfl, rfl, hno⟩ := hrel
    have HNO := Lib.hid hno
    clear hno
    by_cases hlt : j < k
    · have e0 := HC.out j hlt
      have hgw : g < w.heap.size := by omega
      have hlt2 : (j : Int) < (k : Int) := by omega
      have hw1 : IntKind.i64.wrap ((j : Int) + 1) = ((j + 1 : Nat) : Int) := by rw [IntWalk.i64_in _ (by omega)]; rfl
      obtain ⟨y, hy⟩ : ∃ y, f j = y := ⟨_, rfl⟩
      rw [hy] at e0
      by_cases hxy : y = x
      · subst hxy
        have HI := Lib.hid (hasB_yes hlt hy)
        clear hy
        go_wp2
        go_ret
        exact ⟨by rw [HI.out]; rfl, rfl⟩
      · have h1 : (y == x) = false := by rw [beq_eq_false_iff_ne]; exact hxy
        have HN := Lib.hid (show ∀ i, i < j + 1 → f i ≠ x from fun i hi => by
          rcases Nat.lt_succ_iff_lt_or_eq.1 hi with h | rfl
          · exact HNO.out i h
          · rw [hy]; exact hxy)
        clear hy
        go_wp2
        go_roundw
        case rel => first | exact ⟨j + 1, by omega, by go_num, (by first | rfl | trivial), HN.out⟩ | ((repeat (with_reducible apply Exists.intro)); refine And.intro ?_ ?_; rotate_left; (focus ((repeat' (with_reducible apply And.intro)) <;> rfl)); exact ⟨j + 1, by omega, by go_num, (by first | rfl | trivial), HN.out⟩)
        case measure => simp [intOf]; omega
    · have hje : j = k := by omega
      subst hje
      have HI := Lib.hid (hasB_no HNO.out)
      go_wp2
      go_ret
      exact ⟨by rw [HI.out]; rfl, rfl⟩
theorem l00In_qo (n lo hi : Int) (w : World) : Calls Tryz.prog 72 #[.int .i64 n, .int .i64 lo, .int .i64 hi] w fun e w' => e = .returned (.bool (inB n lo hi)) ∧ w' = w := (l00In_any n lo hi w).mono fun _ _ ⟨h1, h2⟩ => ⟨h1, h2.symm⟩
set_option maxHeartbeats 8000000 in
theorem l06Order_any (ov : Value) (bo m n : Nat) (f : Nat → Int) (hm : m ≤ 1048576) (hn : n ≤ 1048576) (w : World) (ho : OwnK .i64 1 w bo ov m f) (hcap : ∀ a cap, ov = .slice a m cap → m ≤ cap) :
    Calls Tryz.prog 45 #[.int .i64 (n : Int), ov] w fun e w' => e = .returned (.bool (prmB f m n)) ∧ Below w.heap.size w w' := by
  have HO := Lib.hid ho
  obtain ⟨ao, cp, rfl⟩ := ho.len
  have hcp := hcap ao cp rfl
  clear ho hcap
  have hw2 : IntKind.i64.wrap ((n : Int) - 1) = (n : Int) - 1 := IntWalk.i64_in _ (by omega)
  go_enter Tryz.func45, Tryz.ntmps45
  go_wp2
  go_loopw [5] (fun z wr => ∃ k : Nat, k ≤ m ∧ z = .int .i64 k ∧ Below w.heap.size w wr ∧ PrmTo f n k) (fun z wr => m + 1 - (intOf z).toNat)
  case atStart => exact ⟨0, by omega, rfl, by repeat' (first | with_reducible exact Below.refl _ _ | with_reducible assumption | with_reducible refine Below.drew ?_ | with_reducible refine Below.drewN ?_ _ | with_reducible refine Below.alloc ?_ ?_ _ | with_reducible refine Below.setCell ?_ ?_ _ | with_reducible refine Below.setRow ?_ ?_ _ | with_reducible refine below_step (by assumption) ?_ ?_ | (show (_ : Nat) ≤ _; first | omega | (simp <;> omega))), ⟨fun i hi => absurd hi (by omega), fun j hj => absurd hj (by omega)⟩⟩
  case round =>
    obtain ⟨k, hk, rfl, hb, hpt⟩ := hrel
    have HPT := Lib.hid hpt
    have hszb := hb.size
    clear hpt
    by_cases hlt : k < m
    · obtain ⟨g, cap', hv, -, hgw0, -, -, hc⟩ := HO.out.pos (by omega)
      simp only [Value.slice.injEq] at hv
      obtain ⟨rfl, -, rfl⟩ := hv
      have HC := Lib.hid hc
      have hgw : g < wr.heap.size := by omega
      have e0 := HC.out k (by omega)
      rw [← keep_row hb hgw0] at e0
      clear hc
      have hlt2 : (k : Int) < (m : Int) := by omega
      have hw1 : IntKind.i64.wrap ((k : Int) + 1) = ((k + 1 : Nat) : Int) := by rw [IntWalk.i64_in _ (by omega)]; rfl
      have HIN0 := fun w => l00In_qo (f k) 0 ((n : Int) - 1) w
      have HHS0 := fun q => l00Has_z g k cp f (by omega) (f k) (wr.drewN q) (.inr (by simpa using hgw)) (fun j hj => by
        have := HC.out j (by omega)
        rw [← keep_row hb hgw0] at this
        exact this)
      have q1 : ¬ cp < k := by omega
      have q2 : ¬ cp = 0 := by omega
      have q3 : k ≤ cp := by omega
      rcases Bool.eq_false_or_eq_true (inB (f k) 0 ((n : Int) - 1)) with hA | hA
      case inr =>
        have HV := Lib.hid (prm_no (f := f) (m := m) (n := n) (fun h => by
          have h2 := h.2.1 k hlt
          have : inB (f k) 0 ((n : Int) - 1) = true := inB_true.2 (by omega)
          rw [this] at hA; cases hA))
        rw [hA] at HIN0
        have HIN := Lib.hid HIN0
        clear HIN0 HHS0 hA
        generalize f k = y at *
        go_wp2
        go_quiet ((go_at_call 72; with_reducible exact Calls.quiet_of_same (HIN.out _)))
        go_wp2
        go_ret
        exact ⟨by rw [HV.out]; rfl, by repeat' (first | with_reducible exact Below.refl _ _ | with_reducible assumption | with_reducible refine Below.drew ?_ | with_reducible refine Below.drewN ?_ _ | with_reducible refine Below.alloc ?_ ?_ _ | with_reducible refine Below.setCell ?_ ?_ _ | with_reducible refine Below.setRow ?_ ?_ _ | with_reducible refine below_step (by assumption) ?_ ?_ | (show (_ : Nat) ≤ _; first | omega | (simp <;> omega)))⟩
      have hA1 := inB_true.1 hA
      rw [hA] at HIN0
      have HIN := Lib.hid HIN0
      clear HIN0 hA
      rcases Bool.eq_false_or_eq_true (hasB f k (f k)) with hB | hB
      · have HV := Lib.hid (prm_no (f := f) (m := m) (n := n) (fun h => by
          have h3 := h.2.2 k hlt
          rw [hasB_no h3] at hB; cases hB))
        rw [hB] at HHS0
        have HHS := Lib.hid HHS0
        clear HHS0 hB
        generalize f k = y at *
        go_wp2
        go_quiet (first | (go_at_call 72; with_reducible exact Calls.quiet_of_same (HIN.out _)) | (go_at_call 95; with_reducible exact Calls.quiet_of_same (HHS.out _)))
        go_wp2
        go_ret
        exact ⟨by rw [HV.out]; rfl, by repeat' (first | with_reducible exact Below.refl _ _ | with_reducible assumption | with_reducible refine Below.drew ?_ | with_reducible refine Below.drewN ?_ _ | with_reducible refine Below.alloc ?_ ?_ _ | with_reducible refine Below.setCell ?_ ?_ _ | with_reducible refine Below.setRow ?_ ?_ _ | with_reducible refine below_step (by assumption) ?_ ?_ | (show (_ : Nat) ≤ _; first | omega | (simp <;> omega)))⟩
      · have HN := Lib.hid (prmTo_next HPT.out (show 0 ≤ f k ∧ f k < (n : Int) by omega) (hasB_all hB))
        rw [hB] at HHS0
        have HHS := Lib.hid HHS0
        clear HHS0 hB
        generalize f k = y at *
        go_wp2
        go_quiet (first | (go_at_call 72; with_reducible exact Calls.quiet_of_same (HIN.out _)) | (go_at_call 95; with_reducible exact Calls.quiet_of_same (HHS.out _)))
        go_wp2
        go_roundw
        case rel => first | exact ⟨k + 1, by omega, by go_num, by repeat' (first | with_reducible exact Below.refl _ _ | with_reducible assumption | with_reducible refine Below.drew ?_ | with_reducible refine Below.drewN ?_ _ | with_reducible refine Below.alloc ?_ ?_ _ | with_reducible refine Below.setCell ?_ ?_ _ | with_reducible refine Below.setRow ?_ ?_ _ | with_reducible refine below_step (by assumption) ?_ ?_ | (show (_ : Nat) ≤ _; first | omega | (simp <;> omega))), HN.out⟩ | ((repeat (with_reducible apply Exists.intro)); refine And.intro ?_ ?_; rotate_left; (focus ((repeat' (with_reducible apply And.intro)) <;> rfl)); exact ⟨k + 1, by omega, by go_num, by repeat' (first | with_reducible exact Below.refl _ _ | with_reducible assumption | with_reducible refine Below.drew ?_ | with_reducible refine Below.drewN ?_ _ | with_reducible refine Below.alloc ?_ ?_ _ | with_reducible refine Below.setCell ?_ ?_ _ | with_reducible refine Below.setRow ?_ ?_ _ | with_reducible refine below_step (by assumption) ?_ ?_ | (show (_ : Nat) ≤ _; first | omega | (simp <;> omega))), HN.out⟩)
        case measure => simp [intOf]; omega
    · have hke : k = m := by omega
      subst hke
      by_cases hmn : k = n
      · have HV := Lib.hid (prm_yes (f := f) (m := k) (n := n) ⟨hmn, HPT.out.1, HPT.out.2⟩)
        subst hmn
        go_wp2
        go_ret
        exact ⟨by rw [HV.out]; rfl, by repeat' (first | with_reducible exact Below.refl _ _ | with_reducible assumption | with_reducible refine Below.drew ?_ | with_reducible refine Below.drewN ?_ _ | with_reducible refine Below.alloc ?_ ?_ _ | with_reducible refine Below.setCell ?_ ?_ _ | with_reducible refine Below.setRow ?_ ?_ _ | with_reducible refine below_step (by assumption) ?_ ?_ | (show (_ : Nat) ≤ _; first | omega | (simp <;> omega)))⟩
      · have HV := Lib.hid (prm_no (f := f) (m := k) (n := n) (fun h => hmn h.1))
        have h1 : ((k : Int) == (n : Int)) = false := by rw [beq_eq_false_iff_ne]; omega
        have h2 : ¬ (k : Int) = (n : Int) := by omega
        go_wp2
        go_ret
        exact ⟨by rw [HV.out]; rfl, by repeat' (first | with_reducible exact Below.refl _ _ | with_reducible assumption | with_reducible refine Below.drew ?_ | with_reducible refine Below.drewN ?_ _ | with_reducible refine Below.alloc ?_ ?_ _ | with_reducible refine Below.setCell ?_ ?_ _ | with_reducible refine Below.setRow ?_ ?_ _ | with_reducible refine below_step (by assumption) ?_ ?_ | (show (_ : Nat) ≤ _; first | omega | (simp <;> omega)))⟩
end Go.Proofs.YtejnejplofddnaaGreatDoor
/- What marks show in an order, with the code: both sides. -/
namespace Go.Proofs.YtejnejplofddnaaGreatDoor
open Go.RowKit
set_option linter.unusedVariables false
set_option linter.unusedSimpArgs false
set_option maxRecDepth 100000
theorem mk_layP {c : Nat → Int} {W H : Nat} (hW : c 0 = W) (hH : c 1 = H) (W8 : W ≤ 8) (H8 : H ≤ 8) {x : Mk} (h : mkOkB c x = true) : MkLay x := by
  unfold mkOkB at h
  simp only [Bool.and_eq_true, inB_true, Bool.not_eq_true', decide_eq_true_eq] at h
  obtain ⟨h1, h2, h3, -, -⟩ := h
  refine ⟨h1, by omega, fun j hj => ?_⟩
  have h4 : misU c x.f j = false := by
    unfold anyB at h3
    rw [List.any_eq_false] at h3
    have := h3 j (List.mem_range.2 hj)
    simpa using this
  unfold misU at h4
  rw [Bool.not_eq_false'] at h4
  obtain ⟨a, b, ha, hb, e1, e2⟩ := isP_in hW hH W8 H8 h4
  exact ⟨a, b, ha, hb, e1, e2⟩
open Classical in
theorem vm_layP {c : Nat → Int} {n : Nat} {F : Nat → Mk} (h : vmB c n F = true) : okS c = true ∧ n ≤ 6 ∧ ∀ k, k < n → MkLay (F k) := by
  unfold vmB at h
  simp only [Bool.and_eq_true, decide_eq_true_eq] at h
  obtain ⟨h1, h2, h3⟩ := h
  obtain ⟨W, H, hW, hH, -, -, W8, H8⟩ := okS_sides h1
  exact ⟨h1, h2, fun k hk => mk_layP hW hH W8 H8 (h3 k hk)⟩
/-- The picture, and the code. -/
noncomputable def pmL (c : Nat → Int) (n : Nat) (F : Nat → Mk) (f : Nat → Int) (m : Nat) : List (List UInt8) := if vmB c n F = true ∧ prmB f m n = true then linB (chP c (pntG F (orL f m))) (c 0).toNat (c 1).toNat else []
noncomputable def pmE (c : Nat → Int) (n : Nat) (F : Nat → Mk) (f : Nat → Int) (m : Nat) : Int := if vmB c n F = true then (if prmB f m n = true then 0 else 4) else 1
theorem pm_bad {c : Nat → Int} {n : Nat} {F : Nat → Mk} (f : Nat → Int) (m : Nat) (h : vmB c n F = false) : pmL c n F f m = [] ∧ pmE c n F f m = 1 := by
  unfold pmL pmE
  rw [h, if_neg (fun g => by cases g.1), if_neg (by decide)]
  exact ⟨rfl, rfl⟩
theorem pm_state {c : Nat → Int} {n : Nat} {F : Nat → Mk} {f : Nat → Int} {m : Nat} (h : vmB c n F = true) (hp : prmB f m n = false) : pmL c n F f m = [] ∧ pmE c n F f m = 4 := by
  unfold pmL pmE
  rw [h, hp, if_neg (fun g => by cases g.2), if_pos rfl, if_neg (by decide)]
  exact ⟨rfl, rfl⟩
theorem pm_ok {c : Nat → Int} {n : Nat} {F : Nat → Mk} {f : Nat → Int} {m : Nat} (h : vmB c n F = true) (hp : prmB f m n = true) : pmL c n F f m = linB (chP c (pntG F (orL f m))) (c 0).toNat (c 1).toNat ∧ pmE c n F f m = 0 := by
  unfold pmL pmE
  rw [h, hp, if_pos ⟨rfl, rfl⟩, if_pos rfl, if_pos rfl]
  exact ⟨rfl, rfl⟩
open Classical in
theorem prm_is {f : Nat → Int} {m n : Nat} (h : prmB f m n = true) : PrmP f m n := by unfold prmB at h; exact of_decide_eq_true h
theorem own_orL {w : World} {b : Nat} {v : Value} {f : Nat → Int} {m n : Nat} (h : OwnK .i64 1 w b v m f) (hr : InRg f m n) : OwnK .i64 1 w b v (orL f m).length (nl (orL f m)) := by
  rw [orL_len]
  exact h.congr (fun j hj => by unfold nl; rw [orL_at (by omega) hr])
set_option maxHeartbeats 8000000 in
theorem sPaintMarks_any (c : Nat → Int) (hfc : FitSheet c) (v : Value) (n b : Nat) (F : Nat → Mk) (hn : n ≤ 1048576) (hF : ∀ k, k < n → MkIn (F k) ∧ (F k).n ≤ 1048576) (ov : Value) (m bo : Nat) (f : Nat → Int) (hm : m ≤ 1048576) (w : World) (h : OwnM w b v n F) (ho : OwnK .i64 1 w bo ov m f) (hcap : ∀ a cap, ov = .slice a m cap → m ≤ cap) :
    Calls Tryz.prog 10 #[.agg (kc sk 266 c), v, ov] w fun e w' => ∃ v', e = .returned (.tuple #[v', .int .i64 (pmE c n F f m)]) ∧ w'.ownsRow w.heap.size 9 1 v' (pmL c n F f m).length (strV (pmL c n F f m)) ∧ Below w.heap.size w w' := by
  obtain ⟨ao, co, rfl⟩ := ho.len
  have HX0 := fun p w h1 h2 h3 => l06Marks_any p c hfc v n b F hn hF w h1 h2 h3
  have HH := Lib.hid h
  have HO := Lib.hid ho
  have HPO0 := fun w2 (hb : Below w.heap.size w w2) => l06Order_any (.slice ao m co) bo m n f hm hn w2 (ho.below hb (Nat.le_refl _)) hcap
  clear hcap
  rcases Bool.eq_false_or_eq_true (vmB c n F) with hv | hv
  case inr =>
    rw [hv] at HX0
    rw [(pm_bad f m hv).1, (pm_bad f m hv).2]
    have HX := Lib.hid HX0
    clear h ho hF hv HX0 HPO0
    go_enter Tryz.func10, Tryz.ntmps10
    go_wp2_with (go_at_call 44; refine (HX.out w.heap.size _ (by (go_simp <;> (intros; omega))) (by first | omega | (simp <;> omega)) (HH.out.below (by repeat' (first | with_reducible exact Below.refl _ _ | with_reducible assumption | with_reducible refine Below.drew ?_ | with_reducible refine Below.drewN ?_ _ | with_reducible refine Below.alloc ?_ ?_ _ | with_reducible refine Below.setCell ?_ ?_ _ | with_reducible refine Below.setRow ?_ ?_ _ | with_reducible refine below_step (by assumption) ?_ ?_ | (show (_ : Nat) ≤ _; first | omega | (simp <;> omega)))) (Nat.le_refl _))).mono ?_; rintro e w1 ⟨rfl, hb1⟩; have r1 := keep_rowA hb1; have f1 := keep_frA hb1; have s1 := hb1.size; (try simp only [World.size_alloc, World.size_setCell, setRow_size, World.size_drew, size_drewNm] at r1 f1 s1))
    refine bodyPost_ret (v := Value.tuple #[Value.slice (some (⟨_, 0, none⟩ : Addr)) 0 0, Value.int .i64 1]) (res_tt rfl rfl rfl) rfl ⟨_, rfl, owns_downP (owns_empty1 _ _) (by first | omega | (simp <;> omega)), by repeat' (first | with_reducible exact Below.refl _ _ | with_reducible assumption | with_reducible refine Below.drew ?_ | with_reducible refine Below.drewN ?_ _ | with_reducible refine Below.alloc ?_ ?_ _ | with_reducible refine Below.setCell ?_ ?_ _ | with_reducible refine Below.setRow ?_ ?_ _ | with_reducible refine below_step (by assumption) ?_ ?_ | (show (_ : Nat) ≤ _; first | omega | (simp <;> omega)))⟩
  obtain ⟨hok, h6, hlay⟩ := vm_layP hv
  rw [hv] at HX0
  have HX := Lib.hid HX0
  obtain ⟨am, cm, rfl⟩ := h.1.len
  rcases Bool.eq_false_or_eq_true (prmB f m n) with hp | hp
  case inr =>
    rw [hp] at HPO0
    rw [(pm_state hv hp).1, (pm_state hv hp).2]
    have HPO := Lib.hid HPO0
    clear h ho hF hv HX0 HPO0 hp hlay hok
    go_enter Tryz.func10, Tryz.ntmps10
    go_wp2_with (first | (go_at_call 44; refine (HX.out w.heap.size _ (by (go_simp <;> (intros; omega))) (by first | omega | (simp <;> omega)) (HH.out.below (by repeat' (first | with_reducible exact Below.refl _ _ | with_reducible assumption | with_reducible refine Below.drew ?_ | with_reducible refine Below.drewN ?_ _ | with_reducible refine Below.alloc ?_ ?_ _ | with_reducible refine Below.setCell ?_ ?_ _ | with_reducible refine Below.setRow ?_ ?_ _ | with_reducible refine below_step (by assumption) ?_ ?_ | (show (_ : Nat) ≤ _; first | omega | (simp <;> omega)))) (Nat.le_refl _))).mono ?_; rintro e w1 ⟨rfl, hb1⟩; have r1 := keep_rowA hb1; have f1 := keep_frA hb1; have s1 := hb1.size; (try simp only [World.size_alloc, World.size_setCell, setRow_size, World.size_drew, size_drewNm] at r1 f1 s1)) | (go_at_call 45; refine (HPO.out _ (by repeat' (first | with_reducible exact Below.refl _ _ | with_reducible assumption | with_reducible refine Below.drew ?_ | with_reducible refine Below.drewN ?_ _ | with_reducible refine Below.alloc ?_ ?_ _ | with_reducible refine Below.setCell ?_ ?_ _ | with_reducible refine Below.setRow ?_ ?_ _ | with_reducible refine below_step (by assumption) ?_ ?_ | (show (_ : Nat) ≤ _; first | omega | (simp <;> omega))))).mono ?_; rintro e w2 ⟨rfl, hb2⟩; have r_hb2 := keep_rowA hb2; have f_hb2 := keep_frA hb2; have s_hb2 := hb2.size; (try simp only [World.size_alloc, World.size_setCell, setRow_size, World.size_drew, size_drewNm] at r_hb2 f_hb2 s_hb2)))
    refine bodyPost_ret (v := Value.tuple #[Value.slice (some (⟨_, 0, none⟩ : Addr)) 0 0, Value.int .i64 4]) (res_tt rfl rfl rfl) rfl ⟨_, rfl, owns_downP (owns_empty1 _ _) (by first | omega | (simp <;> omega)), by repeat' (first | with_reducible exact Below.refl _ _ | with_reducible assumption | with_reducible refine Below.drew ?_ | with_reducible refine Below.drewN ?_ _ | with_reducible refine Below.alloc ?_ ?_ _ | with_reducible refine Below.setCell ?_ ?_ _ | with_reducible refine Below.setRow ?_ ?_ _ | with_reducible refine below_step (by assumption) ?_ ?_ | (show (_ : Nat) ≤ _; first | omega | (simp <;> omega)))⟩
  have hpp := prm_is hp
  obtain ⟨W, H, hW, hH, W0, H0, W8, H8⟩ := okS_sides hok
  have e1 : (c 0).toNat = W := by omega
  have e2 : (c 1).toNat = H := by omega
  rw [hp] at HPO0
  rw [(pm_ok hv hp).1, (pm_ok hv hp).2, e1, e2]
  have HPO := Lib.hid HPO0
  have HPT := Lib.hid (fun p w2 h1 h2 h3 h4 => l06Paint_any p c hfc W H hW hH W0 W8 H8 (.slice am n cm) n b F (by omega) hlay (.slice ao m co) bo (orL f m) (by rw [orL_len]; exact hm) (orL_in hpp.2.1) w2 h1 h2 h3 h4)
  have HOO := Lib.hid (own_orL ho hpp.2.1)
  have hln : (linB (chP c (pntG F (orL f m))) W H).length = H := linB_len _ _ _
  rw [hln]
  clear h ho hF hv HX0 HPO0 hp hlay hok hpp hln
  go_enter Tryz.func10, Tryz.ntmps10
  go_wp2_with (first | (go_at_call 44; refine (HX.out w.heap.size _ (by (go_simp <;> (intros; omega))) (by first | omega | (simp <;> omega)) (HH.out.below (by repeat' (first | with_reducible exact Below.refl _ _ | with_reducible assumption | with_reducible refine Below.drew ?_ | with_reducible refine Below.drewN ?_ _ | with_reducible refine Below.alloc ?_ ?_ _ | with_reducible refine Below.setCell ?_ ?_ _ | with_reducible refine Below.setRow ?_ ?_ _ | with_reducible refine below_step (by assumption) ?_ ?_ | (show (_ : Nat) ≤ _; first | omega | (simp <;> omega)))) (Nat.le_refl _))).mono ?_; rintro e w1 ⟨rfl, hb1⟩; have r1 := keep_rowA hb1; have f1 := keep_frA hb1; have s1 := hb1.size; (try simp only [World.size_alloc, World.size_setCell, setRow_size, World.size_drew, size_drewNm] at r1 f1 s1)) | (go_at_call 45; refine (HPO.out _ (by repeat' (first | with_reducible exact Below.refl _ _ | with_reducible assumption | with_reducible refine Below.drew ?_ | with_reducible refine Below.drewN ?_ _ | with_reducible refine Below.alloc ?_ ?_ _ | with_reducible refine Below.setCell ?_ ?_ _ | with_reducible refine Below.setRow ?_ ?_ _ | with_reducible refine below_step (by assumption) ?_ ?_ | (show (_ : Nat) ≤ _; first | omega | (simp <;> omega))))).mono ?_; rintro e w2 ⟨rfl, hb2⟩; have r_hb2 := keep_rowA hb2; have f_hb2 := keep_frA hb2; have s_hb2 := hb2.size; (try simp only [World.size_alloc, World.size_setCell, setRow_size, World.size_drew, size_drewNm] at r_hb2 f_hb2 s_hb2)) | (go_at_call 46; refine (HPT.out w.heap.size _ (by (go_simp <;> (intros; omega))) (by first | omega | (simp <;> omega)) (HH.out.below (by repeat' (first | with_reducible exact Below.refl _ _ | with_reducible assumption | with_reducible refine Below.drew ?_ | with_reducible refine Below.drewN ?_ _ | with_reducible refine Below.alloc ?_ ?_ _ | with_reducible refine Below.setCell ?_ ?_ _ | with_reducible refine Below.setRow ?_ ?_ _ | with_reducible refine below_step (by assumption) ?_ ?_ | (show (_ : Nat) ≤ _; first | omega | (simp <;> omega)))) (Nat.le_refl _)) (HOO.out.below (by repeat' (first | with_reducible exact Below.refl _ _ | with_reducible assumption | with_reducible refine Below.drew ?_ | with_reducible refine Below.drewN ?_ _ | with_reducible refine Below.alloc ?_ ?_ _ | with_reducible refine Below.setCell ?_ ?_ _ | with_reducible refine Below.setRow ?_ ?_ _ | with_reducible refine below_step (by assumption) ?_ ?_ | (show (_ : Nat) ≤ _; first | omega | (simp <;> omega)))) (Nat.le_refl _))).mono ?_; rintro e w3 ⟨v3, rfl, hown, hb3⟩; have HR := Lib.hid hown; clear hown; have r_hb3 := keep_rowA hb3; have f_hb3 := keep_frA hb3; have s_hb3 := hb3.size; (try simp only [World.size_alloc, World.size_setCell, setRow_size, World.size_drew, size_drewNm] at r_hb3 f_hb3 s_hb3)))
  refine bodyPost_ret (v := Value.tuple #[_, Value.int .i64 0]) (res_tt rfl rfl rfl) rfl ⟨_, rfl, owns_downP HR.out (by first | omega | (simp <;> omega)), by repeat' (first | with_reducible exact Below.refl _ _ | with_reducible assumption | with_reducible refine Below.drew ?_ | with_reducible refine Below.drewN ?_ _ | with_reducible refine Below.alloc ?_ ?_ _ | with_reducible refine Below.setCell ?_ ?_ _ | with_reducible refine Below.setRow ?_ ?_ _ | with_reducible refine below_step (by assumption) ?_ ?_ | (show (_ : Nat) ≤ _; first | omega | (simp <;> omega)))⟩
end Go.Proofs.YtejnejplofddnaaGreatDoor
/- What marks show in an order, with the code: the program. -/
namespace Go.Proofs.YtejnejplofddnaaGreatDoor
open Go.RowKit Go.Shelf
set_option linter.unusedVariables false
set_option linter.unusedSimpArgs false
set_option maxRecDepth 100000
/-- The numbers of an order, sorted. -/
def srD (f : Nat → Int) (m : Nat) : Nat → Int := fun j => ((fL f m).mergeSort fun x y => decide (x ≤ y))[j]?.getD 0
theorem srt_len (f : Nat → Int) (m : Nat) : ((fL f m).mergeSort fun x y => decide (x ≤ y)).length = m := by rw [(srt_facts (fL f m)).1.length_eq, fL_len]
theorem srD_at {f : Nat → Int} {m j : Nat} (h : j < m) : ((fL f m).mergeSort fun x y => decide (x ≤ y))[j]'(by rw [srt_len]; exact h) = srD f m j := by
  unfold srD
  rw [List.getElem?_eq_getElem (by rw [srt_len]; exact h)]; rfl
theorem srt_no {f : Nat → Int} {m n k : Nat} (hk : k < m) (h : srD f m k ≠ (k : Int)) : prmB f m n = false := prm_no (fun hp => by
  have := ((sorted_id (n := n) (srt_facts (fL f m)).1 (srt_facts (fL f m)).2).2 hp).1 k (by rw [srt_len]; exact hk)
  rw [srD_at hk] at this
  exact h this)
theorem srt_size {f : Nat → Int} {m n : Nat} (h : m ≠ n) : prmB f m n = false := prm_no (fun hp => h hp.1)
theorem srt_yes {f : Nat → Int} {m : Nat} (h : ∀ j, j < m → srD f m j = (j : Int)) : prmB f m m = true := prm_yes ((sorted_id (srt_facts (fL f m)).1 (srt_facts (fL f m)).2).1 ⟨fun i hi => by
  rw [srt_len] at hi
  rw [srD_at hi]
  exact h i hi, rfl⟩)
theorem sortedK_any (Bs : Nat) (ov : Value) (m b : Nat) (f : Nat → Int) (hm : m ≤ 1048576) (w : World) (hBs : Bs < w.heap.size) (hc : w.cell? ⟨Bs, 0, none⟩ = some ov) (ho : OwnK .i64 1 w b ov m f) :
    Calls Tryz.prog 41 #[.func (.func 89) #[] #[.pointer (some ⟨Bs, 0, none⟩)]] w fun e w' => ∃ v, e = .returned v ∧ OwnK .i64 1 w' w.heap.size v m (srD f m) ∧ Below w.heap.size w w' := by
  have hI : IntsV w.heap.size w ov (fL f m) := by
    rcases ho with ⟨rfl, rfl⟩ | ⟨g, cap, rfl, -, hg, -, -, hcc⟩
    · exact .inl ⟨rfl, rfl⟩
    · exact .inr ⟨g, 0, cap, by rw [fL_len], hg, fun j hj => by
        rw [fL_len] at hj
        rw [cell_row, Nat.zero_add, hcc j (by omega), List.getElem?_eq_getElem (by rw [fL_len]; exact hj), fL_at hj]; rfl⟩
  refine (sorted_any Bs _ (fL f m) (by rw [fL_len]; exact hm) w hBs hc hI).mono fun e w' hq => ?_
  obtain ⟨v, rfl, hown, hb⟩ := hq
  rw [fL_len] at hown
  refine ⟨v, rfl, OwnK.of hown (fun j hj => ?_), hb⟩
  have hj2 : j < m := by omega
  unfold srtV
  rw [List.getElem?_map, List.getElem?_eq_getElem (by rw [srt_len]; exact hj2), srD_at hj2]; rfl
set_option maxHeartbeats 8000000 in
theorem iPaintMarks_any (c : Nat → Int) (hfc : FitSheet c) (v : Value) (n b : Nat) (F : Nat → Mk) (hn : n ≤ 1048576) (hF : ∀ k, k < n → MkIn (F k) ∧ (F k).n ≤ 1048576) (ov : Value) (m bo : Nat) (f : Nat → Int) (hm : m ≤ 1048576) (w : World) (h : OwnM w b v n F) (ho : OwnK .i64 1 w bo ov m f) (hmx : MxW w) :
    Calls Tryz.prog 9 #[.agg (kc sk 266 c), v, ov] w fun e w' => ∃ v', e = .returned (.tuple #[v', .int .i64 (pmE c n F f m)]) ∧ w'.ownsRow w.heap.size 9 1 v' (pmL c n F f m).length (strV (pmL c n F f m)) ∧ Below w.heap.size w w' := by
  obtain ⟨ao, co, rfl⟩ := ho.len
  have HX0 := fun w h1 => iValidMarks_any c hfc v n b F hn hF w h1
  have HH := Lib.hid h
  have HO := Lib.hid ho
  have HMX := Lib.hid hmx
  rcases Bool.eq_false_or_eq_true (vmB c n F) with hv | hv
  case inr =>
    rw [hv] at HX0
    rw [(pm_bad f m hv).1, (pm_bad f m hv).2]
    have HX := Lib.hid HX0
    clear h ho hF hv HX0 hmx
    go_enter Tryz.func9, Tryz.ntmps9
    go_wp2_with (go_at_call 18; refine (HX.out _ (HH.out.below (by repeat' (first | with_reducible exact Below.refl _ _ | with_reducible assumption | with_reducible refine Below.drew ?_ | with_reducible refine Below.drewN ?_ _ | with_reducible refine Below.alloc ?_ ?_ _ | with_reducible refine Below.setCell ?_ ?_ _ | with_reducible refine Below.setRow ?_ ?_ _ | with_reducible refine below_step (by assumption) ?_ ?_ | (show (_ : Nat) ≤ _; first | omega | (simp <;> omega)))) (Nat.le_refl _))).mono ?_; rintro e w1 ⟨rfl, hb1⟩; have r1 := keep_rowA hb1; have f1 := keep_frA hb1; have s1 := hb1.size; (try simp only [World.size_alloc, World.size_setCell, setRow_size, World.size_drew, size_drewNm] at r1 f1 s1))
    refine bodyPost_ret (v := .tuple #[.slice none 0 0, .int .i64 1]) (res_tt rfl rfl rfl) rfl ⟨_, rfl, World.ownsRow_nil _ _ _ _, by repeat' (first | with_reducible exact Below.refl _ _ | with_reducible assumption | with_reducible refine Below.drew ?_ | with_reducible refine Below.drewN ?_ _ | with_reducible refine Below.alloc ?_ ?_ _ | with_reducible refine Below.setCell ?_ ?_ _ | with_reducible refine Below.setRow ?_ ?_ _ | with_reducible refine below_step (by assumption) ?_ ?_ | (show (_ : Nat) ≤ _; first | omega | (simp <;> omega)))⟩
  obtain ⟨hok, h6, hlay⟩ := vm_layP hv
  rw [hv] at HX0
  have HX := Lib.hid HX0
  obtain ⟨am, cm, rfl⟩ := h.1.len
  have HS := Lib.hid (fun Bs w h1 h2 h3 => sortedK_any Bs (.slice ao m co) m bo f hm w h1 h2 h3)
  have HV := Lib.hid (fun w => values_any ao m co w)
  have HNO := Lib.hid (fun (k : Nat) (h1 : k < m) (h2 : srD f m k ≠ (k : Int)) => pm_state (m := m) hv (srt_no (n := n) h1 h2))
  have HSZ := Lib.hid (fun (h1 : m ≠ n) => pm_state (f := f) (m := m) hv (srt_size (n := n) h1))
  have HYES := Lib.hid (fun (h1 : m = n) (h2 : ∀ j, j < m → srD f m j = (j : Int)) => (show prmB f m n = true by subst h1; exact srt_yes h2))
  have HOK := Lib.hid (fun hp => pm_ok (f := f) (m := m) hv hp)
  have HLAY := Lib.hid hlay
  have HSD := Lib.hid hok
  clear h ho hF hv HX0 hmx hlay hok
  go_enter Tryz.func9, Tryz.ntmps9
  go_wp2_with (first | (go_at_call 18; refine (HX.out _ (HH.out.below (by repeat' (first | with_reducible exact Below.refl _ _ | with_reducible assumption | with_reducible refine Below.drew ?_ | with_reducible refine Below.drewN ?_ _ | with_reducible refine Below.alloc ?_ ?_ _ | with_reducible refine Below.setCell ?_ ?_ _ | with_reducible refine Below.setRow ?_ ?_ _ | with_reducible refine below_step (by assumption) ?_ ?_ | (show (_ : Nat) ≤ _; first | omega | (simp <;> omega)))) (Nat.le_refl _))).mono ?_; rintro e w1 ⟨rfl, hb1⟩; have r1 := keep_rowA hb1; have f1 := keep_frA hb1; have s1 := hb1.size; (try simp only [World.size_alloc, World.size_setCell, setRow_size, World.size_drew, size_drewNm] at r1 f1 s1)) | (go_at_call 42; refine (HV.out _).mono ?_; rintro e w2 ⟨rfl, rfl⟩) | (go_at_call 41; refine (HS.out _ _ (by first | omega | (simp <;> omega)) (by rw [cell_row]; (go_simp <;> (intros; omega))) (HO.out.below (by repeat' (first | with_reducible exact Below.refl _ _ | with_reducible assumption | with_reducible refine Below.drew ?_ | with_reducible refine Below.drewN ?_ _ | with_reducible refine Below.alloc ?_ ?_ _ | with_reducible refine Below.setCell ?_ ?_ _ | with_reducible refine Below.setRow ?_ ?_ _ | with_reducible refine below_step (by assumption) ?_ ?_ | (show (_ : Nat) ≤ _; first | omega | (simp <;> omega)))) (Nat.le_refl _))).mono ?_; rintro e w3 ⟨v3, rfl, hown, hb3⟩; obtain ⟨a3, c3, rfl⟩ := hown.len; have HR := Lib.hid hown; clear hown; have r_hb3 := keep_rowA hb3; have f_hb3 := keep_frA hb3; have s_hb3 := hb3.size; (try simp only [World.size_alloc, World.size_setCell, setRow_size, World.size_drew, size_drewNm] at r_hb3 f_hb3 s_hb3)))
  have hsh : rowOf w3 w.heap.size = kc sk 266 c := by (go_simp <;> (intros; omega))
  clear r_hb3 f_hb3
  go_loopw [18] (fun z wr => ∃ k : Nat, k ≤ m ∧ z = .int .i64 k ∧ Below w3.heap.size w3 wr ∧ ∀ j, j < k → srD f m j = (j : Int)) (fun z wr => m + 1 - (intOf z).toNat)
  case atStart => exact ⟨0, by omega, rfl, by repeat' (first | with_reducible exact Below.refl _ _ | with_reducible assumption | with_reducible refine Below.drew ?_ | with_reducible refine Below.drewN ?_ _ | with_reducible refine Below.alloc ?_ ?_ _ | with_reducible refine Below.setCell ?_ ?_ _ | with_reducible refine Below.setRow ?_ ?_ _ | with_reducible refine below_step (by assumption) ?_ ?_ | (show (_ : Nat) ≤ _; first | omega | (simp <;> omega))), fun j hj => absurd hj (by omega)⟩
  case round =>
    obtain ⟨k, hk, rfl, hb4, hal⟩ := hrel
    have HAL := Lib.hid hal
    have hszr := hb4.size
    have hshr := (keep_row hb4 (by omega)).trans hsh
    clear hal
    by_cases hlt : k < m
    · obtain ⟨g3, c3', hvv, -, hg3, -, hRs3, hc3⟩ := HR.out.pos (by omega)
      simp only [Value.slice.injEq] at hvv
      obtain ⟨rfl, -, rfl⟩ := hvv
      have e0 := hc3 k (by omega)
      rw [← keep_row hb4 hg3] at e0
      have hg3w : g3 < wr.heap.size := by omega
      have hlt2 : (k : Int) < (m : Int) := by omega
      have hw1 : IntKind.i64.wrap ((k : Int) + 1) = ((k + 1 : Nat) : Int) := by rw [IntWalk.i64_in _ (by omega)]; rfl
      clear hc3
      by_cases hx : srD f m k = (k : Int)
      · have HN := Lib.hid (show ∀ j, j < k + 1 → srD f m j = (j : Int) from fun i hi => by
          rcases Nat.lt_succ_iff_lt_or_eq.1 hi with h | rfl
          · exact HAL.out i h
          · exact hx)
        rw [hx] at e0
        clear hx
        go_wp2
        go_roundw
        case rel => first | exact ⟨k + 1, by omega, by go_num, by repeat' (first | with_reducible exact Below.refl _ _ | with_reducible assumption | with_reducible refine Below.drew ?_ | with_reducible refine Below.drewN ?_ _ | with_reducible refine Below.alloc ?_ ?_ _ | with_reducible refine Below.setCell ?_ ?_ _ | with_reducible refine Below.setRow ?_ ?_ _ | with_reducible refine below_step (by assumption) ?_ ?_ | (show (_ : Nat) ≤ _; first | omega | (simp <;> omega))), HN.out⟩ | ((repeat (with_reducible apply Exists.intro)); refine And.intro ?_ ?_; rotate_left; (focus ((repeat' (with_reducible apply And.intro)) <;> rfl)); exact ⟨k + 1, by omega, by go_num, by repeat' (first | with_reducible exact Below.refl _ _ | with_reducible assumption | with_reducible refine Below.drew ?_ | with_reducible refine Below.drewN ?_ _ | with_reducible refine Below.alloc ?_ ?_ _ | with_reducible refine Below.setCell ?_ ?_ _ | with_reducible refine Below.setRow ?_ ?_ _ | with_reducible refine below_step (by assumption) ?_ ?_ | (show (_ : Nat) ≤ _; first | omega | (simp <;> omega))), HN.out⟩)
        case measure => simp [intOf]; omega
      · have HEQ := Lib.hid (HNO.out k hlt hx)
        have h1 : (srD f m k == (k : Int)) = false := by rw [beq_eq_false_iff_ne]; exact hx
        clear hx
        generalize srD f m k = y at *
        have h2 : (y != (k : Int)) = true := by rw [bne, h1]; rfl
        go_wp2
        rw [HEQ.out.1, HEQ.out.2]
        refine bodyPost_ret (v := .tuple #[.slice none 0 0, .int .i64 4]) (res_tt rfl rfl rfl) rfl ⟨_, rfl, World.ownsRow_nil _ _ _ _, by repeat' (first | with_reducible exact Below.refl _ _ | with_reducible assumption | with_reducible refine Below.drew ?_ | with_reducible refine Below.drewN ?_ _ | with_reducible refine Below.alloc ?_ ?_ _ | with_reducible refine Below.setCell ?_ ?_ _ | with_reducible refine Below.setRow ?_ ?_ _ | with_reducible refine below_step (by assumption) ?_ ?_ | (show (_ : Nat) ≤ _; first | omega | (simp <;> omega)))⟩
    · have hke : k = m := by omega
      subst hke
      by_cases hmn : k = n
      · have hp := HYES.out hmn HAL.out
        have hpp := prm_is hp
        have hok := HSD.out
        obtain ⟨W, H, hW, hH, W0, H0, W8, H8⟩ := okS_sides hok
        have e1 : (c 0).toNat = W := by omega
        have e2 : (c 1).toNat = H := by omega
        have HEQ := Lib.hid (HOK.out hp)
        rw [e1, e2] at HEQ
        have HPT := Lib.hid (fun p w2 h1 h2 h3 h4 h5 => paint_any p c hfc W H hW hH W0 W8 H0 H8 (.slice am n cm) n b F hn HLAY.out (.slice ao k co) bo (orL f k) (by rw [orL_len]; exact hm) (orL_in hpp.2.1) w2 h1 h2 h3 h4 h5)
        have HOO := Lib.hid (own_orL HO.out hpp.2.1)
        have HLN := Lib.hid (show (linB (chP c (pntG F (orL f k))) W H).length = H from linB_len _ _ _)
        clear hp hpp hok HAL
        subst hmn
        go_wp2_with (go_at_call 43; refine (HPT.out w.heap.size _ (by (go_simp <;> (intros; omega))) (by first | omega | (simp <;> omega)) (HH.out.below (by repeat' (first | with_reducible exact Below.refl _ _ | with_reducible assumption | with_reducible refine Below.drew ?_ | with_reducible refine Below.drewN ?_ _ | with_reducible refine Below.alloc ?_ ?_ _ | with_reducible refine Below.setCell ?_ ?_ _ | with_reducible refine Below.setRow ?_ ?_ _ | with_reducible refine below_step (by assumption) ?_ ?_ | (show (_ : Nat) ≤ _; first | omega | (simp <;> omega)))) (Nat.le_refl _)) (HOO.out.below (by repeat' (first | with_reducible exact Below.refl _ _ | with_reducible assumption | with_reducible refine Below.drew ?_ | with_reducible refine Below.drewN ?_ _ | with_reducible refine Below.alloc ?_ ?_ _ | with_reducible refine Below.setCell ?_ ?_ _ | with_reducible refine Below.setRow ?_ ?_ _ | with_reducible refine below_step (by assumption) ?_ ?_ | (show (_ : Nat) ≤ _; first | omega | (simp <;> omega)))) (Nat.le_refl _)) (HMX.out.below (by repeat' (first | with_reducible exact Below.refl _ _ | with_reducible assumption | with_reducible refine Below.drew ?_ | with_reducible refine Below.drewN ?_ _ | with_reducible refine Below.alloc ?_ ?_ _ | with_reducible refine Below.setCell ?_ ?_ _ | with_reducible refine Below.setRow ?_ ?_ _ | with_reducible refine below_step (by assumption) ?_ ?_ | (show (_ : Nat) ≤ _; first | omega | (simp <;> omega)))))).mono ?_; rintro e w5 ⟨v5, rfl, hown, hb5⟩; have HRR := Lib.hid hown; clear hown; have r_hb5 := keep_rowA hb5; have f_hb5 := keep_frA hb5; have s_hb5 := hb5.size; (try simp only [World.size_alloc, World.size_setCell, setRow_size, World.size_drew, size_drewNm] at r_hb5 f_hb5 s_hb5))
        rw [HEQ.out.1, HEQ.out.2, HLN.out]
        refine bodyPost_ret (v := Value.tuple #[_, Value.int .i64 0]) (res_tt rfl rfl rfl) rfl ⟨_, rfl, owns_downP HRR.out (by first | omega | (simp <;> omega)), by repeat' (first | with_reducible exact Below.refl _ _ | with_reducible assumption | with_reducible refine Below.drew ?_ | with_reducible refine Below.drewN ?_ _ | with_reducible refine Below.alloc ?_ ?_ _ | with_reducible refine Below.setCell ?_ ?_ _ | with_reducible refine Below.setRow ?_ ?_ _ | with_reducible refine below_step (by assumption) ?_ ?_ | (show (_ : Nat) ≤ _; first | omega | (simp <;> omega)))⟩
      · have HEQ := Lib.hid (HSZ.out hmn)
        have h1 : ((k : Int) == (n : Int)) = false := by rw [beq_eq_false_iff_ne]; omega
        have h2 : ((k : Int) != (n : Int)) = true := by rw [bne, h1]; rfl
        clear hmn
        go_wp2
        rw [HEQ.out.1, HEQ.out.2]
        refine bodyPost_ret (v := .tuple #[.slice none 0 0, .int .i64 4]) (res_tt rfl rfl rfl) rfl ⟨_, rfl, World.ownsRow_nil _ _ _ _, by repeat' (first | with_reducible exact Below.refl _ _ | with_reducible assumption | with_reducible refine Below.drew ?_ | with_reducible refine Below.drewN ?_ _ | with_reducible refine Below.alloc ?_ ?_ _ | with_reducible refine Below.setCell ?_ ?_ _ | with_reducible refine Below.setRow ?_ ?_ _ | with_reducible refine below_step (by assumption) ?_ ?_ | (show (_ : Nat) ≤ _; first | omega | (simp <;> omega)))⟩
end Go.Proofs.YtejnejplofddnaaGreatDoor
