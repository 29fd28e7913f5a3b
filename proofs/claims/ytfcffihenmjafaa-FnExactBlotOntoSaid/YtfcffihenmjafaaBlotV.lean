/- Ink goes over several times: codes and values. Written by gen_blot.py. -/
import Derived.Test.YtfcffihenmjafaaBlotP
import Derived.Test.YtfcffihenmjafaaAskBase
import Derived.BigQuiet
namespace Go.Proofs.Ytfcffihenmjafaa
open Go.RowKit
set_option linter.unusedVariables false
set_option linter.unusedSimpArgs false
set_option maxRecDepth 100000
def codeB (o1 o2 pr f s : Bool) : Int := if o1 && o2 then (if pr && f then (if s then 0 else 4) else 2) else 1
def sidesB (c d : Nat → Int) : Bool := decide (c 0 = d 0) && decide (c 1 = d 1)
theorem sidesB_true {c d : Nat → Int} : sidesB c d = true ↔ c 0 = d 0 ∧ c 1 = d 1 := by unfold sidesB; simp
noncomputable def codeV (c d : Nat → Int) (p r : Int) : Int := codeB (okS c) (okS d) (inB p 1 8) (inB r 0 30) (sidesB c d)
noncomputable def blotS (c d : Nat → Int) (p r : Int) : BS := blR p (c 0).toNat ((c 1).toNat * (c 0).toNat) ⟨c, d, 0⟩ r.toNat
noncomputable def blotV (c d : Nat → Int) (p r : Int) : Value :=
  if codeV c d p r = 0 then .tuple #[.agg (kc sk 266 (blotS c d p r).c), .agg (kc sk 266 (blotS c d p r).d), .int .i64 (blotS c d p r).m, .int .i64 0] else .tuple #[.agg (kc sk 266 fun _ => 0), .agg (kc sk 266 fun _ => 0), .int .i64 0, .int .i64 (codeV c d p r)]
theorem blotV_is (c d : Nat → Int) (p r : Int) : ∃ (e1 e2 : Nat → Int) (m z : Int), blotV c d p r = .tuple #[.agg (kc sk 266 e1), .agg (kc sk 266 e2), .int .i64 m, .int .i64 z] := by
  unfold blotV; split <;> exact ⟨_, _, _, _, rfl⟩
theorem blotV_no {c d : Nat → Int} {p r : Int} (h : codeV c d p r ≠ 0) : blotV c d p r = .tuple #[.agg (kc sk 266 fun _ => 0), .agg (kc sk 266 fun _ => 0), .int .i64 0, .int .i64 (codeV c d p r)] := if_neg h
theorem blotV_yes {c d : Nat → Int} {p r : Int} {W H k : Nat} (h : codeV c d p r = 0) (hW : c 0 = W) (hH : c 1 = H) (hr : r = k) : blotV c d p r = .tuple #[.agg (kc sk 266 (blR p W (H * W) ⟨c, d, 0⟩ k).c), .agg (kc sk 266 (blR p W (H * W) ⟨c, d, 0⟩ k).d), .int .i64 (blR p W (H * W) ⟨c, d, 0⟩ k).m, .int .i64 0] := by
  unfold blotV
  rw [if_pos h]
  unfold blotS
  rw [hW, hH, hr, Int.toNat_natCast, Int.toNat_natCast, Int.toNat_natCast]
theorem codeV_zero {c d : Nat → Int} {p r : Int} (h : codeV c d p r = 0) : okS c = true ∧ okS d = true ∧ (1 ≤ p ∧ p ≤ 8) ∧ (0 ≤ r ∧ r ≤ 30) ∧ c 0 = d 0 ∧ c 1 = d 1 := by
  unfold codeV codeB at h
  split at h
  · split at h
    · split at h
      · rename_i q1 q2 q3
        simp only [Bool.and_eq_true, inB_true] at q1 q2
        have := sidesB_true.1 q3
        exact ⟨q1.1, q1.2, q2.1, q2.2, this.1, this.2⟩
      · omega
    · omega
  · omega
theorem good_zero {W H M : Nat} {s : BS} (h : GoodB W H M s) : GoodB W H 0 ⟨s.c, s.d, 0⟩ := ⟨h.fc, h.fd, h.w0, h.h0, h.dc, h.dd, h.wet, ⟨Int.le_refl _, Int.le_refl _⟩⟩
/-- One round more. -/
theorem blR_next (p : Int) (W n : Nat) (s : BS) (k : Nat) : (blR p W n s (k + 1)).c = (blN p W ⟨(blR p W n s k).c, (blR p W n s k).d, 0⟩ n).c ∧ (blR p W n s (k + 1)).d = (blN p W ⟨(blR p W n s k).c, (blR p W n s k).d, 0⟩ n).d ∧ (blR p W n s (k + 1)).m = (blR p W n s k).m + (blN p W ⟨(blR p W n s k).c, (blR p W n s k).d, 0⟩ n).m := by
  show (blN p W (blR p W n s k) n).c = _ ∧ (blN p W (blR p W n s k) n).d = _ ∧ (blN p W (blR p W n s k) n).m = _
  generalize blR p W n s k = t
  obtain ⟨tc, td, tm⟩ := t
  exact blN_shift p W tc td tm n
/-- What is known at the head of a round. -/
def RndR (c d : Nat → Int) (p : Int) (W n : Nat) (w : World) (k : Nat) (wr : World) : Prop := Below w.heap.size w wr ∧ w.heap.size + 4 ≤ wr.heap.size ∧ rowOf wr w.heap.size = kc sk 266 (blR p W n ⟨c, d, 0⟩ k).c ∧ frOf wr w.heap.size = (0, 0) ∧ rowOf wr (w.heap.size + 1) = kc sk 266 (blR p W n ⟨c, d, 0⟩ k).d ∧ frOf wr (w.heap.size + 1) = (0, 0) ∧
  rowOf wr (w.heap.size + 1 + 1) = kc sk 266 (fun _ => 0) ∧ frOf wr (w.heap.size + 1 + 1) = (0, 0) ∧ rowOf wr (w.heap.size + 1 + 1 + 1) = kc sk 266 (fun _ => 0) ∧ frOf wr (w.heap.size + 1 + 1 + 1) = (0, 0)
theorem l03Press_any (p : Int) (w : World) : Calls Try.prog 105 #[.int .i64 p] w fun e w' => e = .returned (.bool (inB p 1 8)) ∧ w = w' := by
  go_enter Try.func105, Try.ntmps105
  go_wp2_with ((go_at_call 60; refine (l00In_any _ _ _ _).mono ?_; rintro e w1 ⟨rfl, rfl⟩))
  go_ret
  exact ⟨rfl, rfl⟩
set_option maxHeartbeats 4000000 in
theorem l03Both_any (pp q : Nat) (c d : Nat → Int) (hc : FitSheet c) (hd : FitSheet d) (p : Int) (f : Bool) (w : World) (hr : rowOf w pp = kc sk 266 c) (hp : pp < w.heap.size) (hr2 : rowOf w q = kc sk 266 d) (hq : q < w.heap.size) :
    Calls Try.prog 66 #[.pointer (some ⟨pp, 0, none⟩), .pointer (some ⟨q, 0, none⟩), .int .i64 p, .bool f] w fun e w' => e = .returned (.int .i64 (codeB (okS c) (okS d) (inB p 1 8) f (sidesB c d))) ∧ Below w.heap.size w w' := by
  have hC := fun w hr hp => l01Ok_any pp c hc w hr hp
  have hD := fun w hr hp => l01Ok_any q d hd w hr hp
  have hP := fun w => l03Press_any p w
  generalize okS c = b1 at hC ⊢
  generalize okS d = b2 at hD ⊢
  generalize inB p 1 8 = b3 at hP ⊢
  have HC := Lib.hid hC
  have HD := Lib.hid hD
  have HP := Lib.hid hP
  clear hC hD hP
  have hs0 := hc.side 0 (by omega)
  have hs1 := hc.side 1 (by omega)
  cases b1
  case false =>
    go_enter Try.func66, Try.ntmps66
    go_wp2_with (first | (go_at_call 44; with_reducible refine (HC.out _ ?_ ?_).mono ?_; (focus (go_simp <;> (intros; omega))); (focus (first | omega | (simp <;> omega))); rintro e w1 ⟨rfl, hb1⟩; have r1 := keep_rowA hb1; have f1 := keep_frA hb1; have s1 := hb1.size; (try simp only [World.size_alloc, World.size_setCell, setRow_size, World.size_drew, size_drewNm] at r1 f1 s1)) | (go_at_call 44; with_reducible refine (HD.out _ ?_ ?_).mono ?_; (focus (go_simp <;> (intros; omega))); (focus (first | omega | (simp <;> omega))); rintro e w1 ⟨rfl, hb1⟩; have r1 := keep_rowA hb1; have f1 := keep_frA hb1; have s1 := hb1.size; (try simp only [World.size_alloc, World.size_setCell, setRow_size, World.size_drew, size_drewNm] at r1 f1 s1)) | (go_at_call 105; refine (HP.out _).mono ?_; rintro e w1 ⟨rfl, rfl⟩))
    go_ret
    exact ⟨by simp [codeB], by repeat' (first | with_reducible exact Below.refl _ _ | with_reducible assumption | with_reducible refine Below.drew ?_ | with_reducible refine Below.drewN ?_ _ | with_reducible refine Below.alloc ?_ ?_ _ | with_reducible refine Below.setCell ?_ ?_ _ | with_reducible refine Below.setRow ?_ ?_ _ | with_reducible refine below_step (by assumption) ?_ ?_ | (show (_ : Nat) ≤ _; first | omega | (simp <;> omega)))⟩
  cases b2
  case false =>
    go_enter Try.func66, Try.ntmps66
    go_wp2_with (first | (go_at_call 44; with_reducible refine (HC.out _ ?_ ?_).mono ?_; (focus (go_simp <;> (intros; omega))); (focus (first | omega | (simp <;> omega))); rintro e w1 ⟨rfl, hb1⟩; have r1 := keep_rowA hb1; have f1 := keep_frA hb1; have s1 := hb1.size; (try simp only [World.size_alloc, World.size_setCell, setRow_size, World.size_drew, size_drewNm] at r1 f1 s1)) | (go_at_call 44; with_reducible refine (HD.out _ ?_ ?_).mono ?_; (focus (go_simp <;> (intros; omega))); (focus (first | omega | (simp <;> omega))); rintro e w1 ⟨rfl, hb1⟩; have r1 := keep_rowA hb1; have f1 := keep_frA hb1; have s1 := hb1.size; (try simp only [World.size_alloc, World.size_setCell, setRow_size, World.size_drew, size_drewNm] at r1 f1 s1)) | (go_at_call 105; refine (HP.out _).mono ?_; rintro e w1 ⟨rfl, rfl⟩))
    go_ret
    exact ⟨by simp [codeB], by repeat' (first | with_reducible exact Below.refl _ _ | with_reducible assumption | with_reducible refine Below.drew ?_ | with_reducible refine Below.drewN ?_ _ | with_reducible refine Below.alloc ?_ ?_ _ | with_reducible refine Below.setCell ?_ ?_ _ | with_reducible refine Below.setRow ?_ ?_ _ | with_reducible refine below_step (by assumption) ?_ ?_ | (show (_ : Nat) ≤ _; first | omega | (simp <;> omega)))⟩
  cases b3
  case false =>
    go_enter Try.func66, Try.ntmps66
    go_wp2_with (first | (go_at_call 44; with_reducible refine (HC.out _ ?_ ?_).mono ?_; (focus (go_simp <;> (intros; omega))); (focus (first | omega | (simp <;> omega))); rintro e w1 ⟨rfl, hb1⟩; have r1 := keep_rowA hb1; have f1 := keep_frA hb1; have s1 := hb1.size; (try simp only [World.size_alloc, World.size_setCell, setRow_size, World.size_drew, size_drewNm] at r1 f1 s1)) | (go_at_call 44; with_reducible refine (HD.out _ ?_ ?_).mono ?_; (focus (go_simp <;> (intros; omega))); (focus (first | omega | (simp <;> omega))); rintro e w1 ⟨rfl, hb1⟩; have r1 := keep_rowA hb1; have f1 := keep_frA hb1; have s1 := hb1.size; (try simp only [World.size_alloc, World.size_setCell, setRow_size, World.size_drew, size_drewNm] at r1 f1 s1)) | (go_at_call 105; refine (HP.out _).mono ?_; rintro e w1 ⟨rfl, rfl⟩))
    go_ret
    exact ⟨by simp [codeB], by repeat' (first | with_reducible exact Below.refl _ _ | with_reducible assumption | with_reducible refine Below.drew ?_ | with_reducible refine Below.drewN ?_ _ | with_reducible refine Below.alloc ?_ ?_ _ | with_reducible refine Below.setCell ?_ ?_ _ | with_reducible refine Below.setRow ?_ ?_ _ | with_reducible refine below_step (by assumption) ?_ ?_ | (show (_ : Nat) ≤ _; first | omega | (simp <;> omega)))⟩
  cases f
  case false =>
    go_enter Try.func66, Try.ntmps66
    go_wp2_with (first | (go_at_call 44; with_reducible refine (HC.out _ ?_ ?_).mono ?_; (focus (go_simp <;> (intros; omega))); (focus (first | omega | (simp <;> omega))); rintro e w1 ⟨rfl, hb1⟩; have r1 := keep_rowA hb1; have f1 := keep_frA hb1; have s1 := hb1.size; (try simp only [World.size_alloc, World.size_setCell, setRow_size, World.size_drew, size_drewNm] at r1 f1 s1)) | (go_at_call 44; with_reducible refine (HD.out _ ?_ ?_).mono ?_; (focus (go_simp <;> (intros; omega))); (focus (first | omega | (simp <;> omega))); rintro e w1 ⟨rfl, hb1⟩; have r1 := keep_rowA hb1; have f1 := keep_frA hb1; have s1 := hb1.size; (try simp only [World.size_alloc, World.size_setCell, setRow_size, World.size_drew, size_drewNm] at r1 f1 s1)) | (go_at_call 105; refine (HP.out _).mono ?_; rintro e w1 ⟨rfl, rfl⟩))
    go_ret
    exact ⟨by simp [codeB], by repeat' (first | with_reducible exact Below.refl _ _ | with_reducible assumption | with_reducible refine Below.drew ?_ | with_reducible refine Below.drewN ?_ _ | with_reducible refine Below.alloc ?_ ?_ _ | with_reducible refine Below.setCell ?_ ?_ _ | with_reducible refine Below.setRow ?_ ?_ _ | with_reducible refine below_step (by assumption) ?_ ?_ | (show (_ : Nat) ≤ _; first | omega | (simp <;> omega)))⟩
  by_cases hw : c 0 = d 0
  case neg =>
    have hwd : (c 0 == d 0) = false := by simpa using hw
    have hwdn : (c 0 != d 0) = true := by simp [bne, hwd]
    have hwdd : decide (c 0 = d 0) = false := by simpa using hw
    have hE : codeB true true true true (sidesB c d) = 4 := by unfold sidesB codeB; simp [hw]
    have HE := Lib.hid hE
    clear hE hw
    go_enter Try.func66, Try.ntmps66
    go_wp2_with (first | (go_at_call 44; with_reducible refine (HC.out _ ?_ ?_).mono ?_; (focus (go_simp <;> (intros; omega))); (focus (first | omega | (simp <;> omega))); rintro e w1 ⟨rfl, hb1⟩; have r1 := keep_rowA hb1; have f1 := keep_frA hb1; have s1 := hb1.size; (try simp only [World.size_alloc, World.size_setCell, setRow_size, World.size_drew, size_drewNm] at r1 f1 s1)) | (go_at_call 44; with_reducible refine (HD.out _ ?_ ?_).mono ?_; (focus (go_simp <;> (intros; omega))); (focus (first | omega | (simp <;> omega))); rintro e w1 ⟨rfl, hb1⟩; have r1 := keep_rowA hb1; have f1 := keep_frA hb1; have s1 := hb1.size; (try simp only [World.size_alloc, World.size_setCell, setRow_size, World.size_drew, size_drewNm] at r1 f1 s1)) | (go_at_call 105; refine (HP.out _).mono ?_; rintro e w1 ⟨rfl, rfl⟩))
    go_quiet (fail)
    go_wp2
    go_ret
    exact ⟨by rw [HE.out]; rfl, by repeat' (first | with_reducible exact Below.refl _ _ | with_reducible assumption | with_reducible refine Below.drew ?_ | with_reducible refine Below.drewN ?_ _ | with_reducible refine Below.alloc ?_ ?_ _ | with_reducible refine Below.setCell ?_ ?_ _ | with_reducible refine Below.setRow ?_ ?_ _ | with_reducible refine below_step (by assumption) ?_ ?_ | (show (_ : Nat) ≤ _; first | omega | (simp <;> omega)))⟩
  by_cases hh : c 1 = d 1
  case neg =>
    have hwd : (c 0 == d 0) = true := by simpa using hw
    have hwdn : (c 0 != d 0) = false := by simp [bne, hwd]
    have hwdd : decide (c 0 = d 0) = true := by simpa using hw
    have hhd : (c 1 == d 1) = false := by simpa using hh
    have hhdn : (c 1 != d 1) = true := by simp [bne, hhd]
    have hhdd : decide (c 1 = d 1) = false := by simpa using hh
    have hE : codeB true true true true (sidesB c d) = 4 := by unfold sidesB codeB; simp [hh]
    have HE := Lib.hid hE
    clear hE hw hh
    go_enter Try.func66, Try.ntmps66
    go_wp2_with (first | (go_at_call 44; with_reducible refine (HC.out _ ?_ ?_).mono ?_; (focus (go_simp <;> (intros; omega))); (focus (first | omega | (simp <;> omega))); rintro e w1 ⟨rfl, hb1⟩; have r1 := keep_rowA hb1; have f1 := keep_frA hb1; have s1 := hb1.size; (try simp only [World.size_alloc, World.size_setCell, setRow_size, World.size_drew, size_drewNm] at r1 f1 s1)) | (go_at_call 44; with_reducible refine (HD.out _ ?_ ?_).mono ?_; (focus (go_simp <;> (intros; omega))); (focus (first | omega | (simp <;> omega))); rintro e w1 ⟨rfl, hb1⟩; have r1 := keep_rowA hb1; have f1 := keep_frA hb1; have s1 := hb1.size; (try simp only [World.size_alloc, World.size_setCell, setRow_size, World.size_drew, size_drewNm] at r1 f1 s1)) | (go_at_call 105; refine (HP.out _).mono ?_; rintro e w1 ⟨rfl, rfl⟩))
    go_quiet (fail)
    go_wp2
    go_ret
    exact ⟨by rw [HE.out]; rfl, by repeat' (first | with_reducible exact Below.refl _ _ | with_reducible assumption | with_reducible refine Below.drew ?_ | with_reducible refine Below.drewN ?_ _ | with_reducible refine Below.alloc ?_ ?_ _ | with_reducible refine Below.setCell ?_ ?_ _ | with_reducible refine Below.setRow ?_ ?_ _ | with_reducible refine below_step (by assumption) ?_ ?_ | (show (_ : Nat) ≤ _; first | omega | (simp <;> omega)))⟩
  have hwd : (c 0 == d 0) = true := by simpa using hw
  have hwdn : (c 0 != d 0) = false := by simp [bne, hwd]
  have hwdd : decide (c 0 = d 0) = true := by simpa using hw
  have hhd : (c 1 == d 1) = true := by simpa using hh
  have hhdn : (c 1 != d 1) = false := by simp [bne, hhd]
  have hhdd : decide (c 1 = d 1) = true := by simpa using hh
  have hE : codeB true true true true (sidesB c d) = 0 := by unfold sidesB codeB; simp [hw, hh]
  have HE := Lib.hid hE
  clear hE hw hh
  go_enter Try.func66, Try.ntmps66
  go_wp2_with (first | (go_at_call 44; with_reducible refine (HC.out _ ?_ ?_).mono ?_; (focus (go_simp <;> (intros; omega))); (focus (first | omega | (simp <;> omega))); rintro e w1 ⟨rfl, hb1⟩; have r1 := keep_rowA hb1; have f1 := keep_frA hb1; have s1 := hb1.size; (try simp only [World.size_alloc, World.size_setCell, setRow_size, World.size_drew, size_drewNm] at r1 f1 s1)) | (go_at_call 44; with_reducible refine (HD.out _ ?_ ?_).mono ?_; (focus (go_simp <;> (intros; omega))); (focus (first | omega | (simp <;> omega))); rintro e w1 ⟨rfl, hb1⟩; have r1 := keep_rowA hb1; have f1 := keep_frA hb1; have s1 := hb1.size; (try simp only [World.size_alloc, World.size_setCell, setRow_size, World.size_drew, size_drewNm] at r1 f1 s1)) | (go_at_call 105; refine (HP.out _).mono ?_; rintro e w1 ⟨rfl, rfl⟩))
  go_quiet (fail)
  go_wp2
  go_ret
  exact ⟨by rw [HE.out]; rfl, by repeat' (first | with_reducible exact Below.refl _ _ | with_reducible assumption | with_reducible refine Below.drew ?_ | with_reducible refine Below.drewN ?_ _ | with_reducible refine Below.alloc ?_ ?_ _ | with_reducible refine Below.setCell ?_ ?_ _ | with_reducible refine Below.setRow ?_ ?_ _ | with_reducible refine below_step (by assumption) ?_ ?_ | (show (_ : Nat) ≤ _; first | omega | (simp <;> omega)))⟩
end Go.Proofs.Ytfcffihenmjafaa
