/- All orders in which marks make a picture, from nothing on: both sides. -/
import Derived.Test.YtifhffnppgkjgaaGreatDoorOrdS
import Derived.Test.YtifhffnppgkjgaaGreatDoorVMarkT
import Derived.Test.YtifhffnppgkjgaaGreatDoorWaterI
namespace Go.Proofs.YtifhffnppgkjgaaGreatDoor
open Go.RowKit
set_option linter.unusedVariables false
set_option linter.unusedSimpArgs false
set_option maxRecDepth 100000
/-- All orders in which marks make a picture. -/
def allO (c : Nat → Int) (n : Nat) (F : Nat → Mk) (P : List (List UInt8)) : List (List Nat) := ordL (okPic c F (c 0).toNat (c 1).toNat P) n n []
theorem mk_lay {c : Nat → Int} {W H : Nat} (hW : c 0 = W) (hH : c 1 = H) (W8 : W ≤ 8) (H8 : H ≤ 8) {x : Mk} (h : mkOkB c x = true) : MkLay x := by
  unfold mkOkB at h
  simp only [Bool.and_eq_true, inB_true, Bool.not_eq_true', decide_eq_true_eq] at h
  obtain ⟨h1, h2, h3, -, -⟩ := h
  refine ⟨h1, by omega, fun j hj => ?_⟩
  have h4 : misU c x.f j = false := by
    unfold anyB at h3
    rw [List.any_eq_false] at h3
    have := h3 j (List.mem_range.2 hj)
    simpa using this
  unfold misU at h4
  rw [Bool.not_eq_false'] at h4
  obtain ⟨a, b, ha, hb, e1, e2⟩ := isP_in hW hH W8 H8 h4
  exact ⟨a, b, ha, hb, e1, e2⟩
open Classical in
theorem vm_lay {c : Nat → Int} {n : Nat} {F : Nat → Mk} (h : vmB c n F = true) : okS c = true ∧ n ≤ 6 ∧ ∀ k, k < n → MkLay (F k) := by
  unfold vmB at h
  simp only [Bool.and_eq_true, decide_eq_true_eq] at h
  obtain ⟨h1, h2, h3⟩ := h
  obtain ⟨W, H, hW, hH, -, -, W8, H8⟩ := okS_sides h1
  exact ⟨h1, h2, fun k hk => mk_lay hW hH W8 H8 (h3 k hk)⟩
theorem allO_len {c : Nat → Int} {n : Nat} {F : Nat → Mk} {P : List (List UInt8)} {m : List Nat} (h : m ∈ allO c n F P) : m.length = n ∧ ∀ i ∈ m, i < n := by
  obtain ⟨h1, -, h3⟩ := ordL_len h
  exact ⟨by simpa using h1, h3 (fun i hi => by cases hi)⟩
theorem allO_few {c : Nat → Int} {n : Nat} {F : Nat → Mk} {P : List (List UInt8)} (hn : n ≤ 6) : (allO c n F P).length ≤ 300000 := by
  have h1 := ordL_few (okPic c F (c 0).toNat (c 1).toNat P) hn n []
  have h2 : 6 ^ n ≤ 6 ^ 6 := Nat.pow_le_pow_right (by decide) hn
  have h3 : (6 : Nat) ^ 6 = 46656 := by decide
  unfold allO
  omega
/-- A list of lists that is given back. -/
def AllW (w w' : World) (B : Nat) (v : Value) (L : List (List Nat)) : Prop := ∃ D : Od, w'.ownsRow w.heap.size 49 1 v D.length (odV D) ∧ odL D = L ∧ OdW w' B D
theorem AllW.len {w w' : World} {B : Nat} {v : Value} {L : List (List Nat)} (h : AllW w w' B v L) : ∃ a cap, v = .slice a L.length cap := by
  obtain ⟨D, h, rfl, -⟩ := h
  rw [odL_len]
  rcases h.2 with ⟨rfl, h0⟩ | ⟨g, cap, cur, rfl, -⟩
  · exact ⟨none, 0, by rw [h0]⟩
  · exact ⟨_, cap, rfl⟩
theorem sAll_any (p : Nat) (c : Nat → Int) (hfc : FitSheet c) (hok : okS c = true) (v : Value) (n b : Nat) (F : Nat → Mk) (hn : n ≤ 6) (hF : ∀ k, k < n → MkLay (F k)) (pv : Value) (bp : Nat) (P : List (List UInt8)) (hP : P.length ≤ 1048576) (lv : Value) (bl B : Nat) (w : World) (hB1 : B ≤ bl) (hB2 : B ≤ w.heap.size) (hr : rowOf w p = kc sk 266 c) (hp : p < w.heap.size) (hm : OwnM w b v n F) (hpv : OwnT w bp pv P) (hlv : OwnK .i64 1 w bl lv 0 (nl [])) :
    Calls Tryz.prog 29 #[.pointer (some ⟨p, 0, none⟩), v, pv, lv] w fun e w' => ∃ v', e = .returned v' ∧ AllW w w' B v' (allO c n F P) ∧ Below w.heap.size w w' := by
  obtain ⟨W, H, hW, hH, W0, H0, W8, H8⟩ := okS_sides hok
  have e1 : (c 0).toNat = W := by omega
  have e2 : (c 1).toNat = H := by omega
  refine (l06Orders_any p c hfc W H hW hH W0 W8 H0 H8 v n b F hn hF pv bp P hP n [] lv bl B w (by simp) hB1 hB2 (fun i hi => by cases hi) hr hp hm hpv hlv).mono fun e w' hq => ?_
  obtain ⟨v', D, rfl, h1, h2, h3, h4⟩ := hq
  exact ⟨v', rfl, ⟨D, h1, by unfold allO; rw [e1, e2]; exact h2, h3⟩, h4⟩
theorem iAll_any (p : Nat) (c : Nat → Int) (hfc : FitSheet c) (hok : okS c = true) (v : Value) (n b : Nat) (F : Nat → Mk) (hn : n ≤ 6) (hF : ∀ k, k < n → MkLay (F k)) (pv : Value) (bp : Nat) (P : List (List UInt8)) (hP : P.length ≤ 1048576) (B : Nat) (w : World) (hB2 : B ≤ w.heap.size) (hr : rowOf w p = kc sk 266 c) (hp : p < w.heap.size) (hm : OwnM w b v n F) (hpv : OwnT w bp pv P) (hmx : MxW w) :
    Calls Tryz.prog 36 #[.pointer (some ⟨p, 0, none⟩), v, pv, .slice none 0 0] w fun e w' => ∃ v', e = .returned v' ∧ AllW w w' B v' (allO c n F P) ∧ Below w.heap.size w w' := by
  obtain ⟨W, H, hW, hH, W0, H0, W8, H8⟩ := okS_sides hok
  have e1 : (c 0).toNat = W := by omega
  have e2 : (c 1).toNat = H := by omega
  refine (orders_any p c hfc W H hW hH W0 W8 H0 H8 v n b F hn hF pv bp P hP n [] (.slice none 0 0) w.heap.size B w (by simp) hB2 hB2 (fun i hi => by cases hi) hr hp hm hpv (.inl ⟨rfl, rfl⟩) hmx).mono fun e w' hq => ?_
  obtain ⟨v', D, rfl, h1, h2, h3, h4⟩ := hq
  exact ⟨v', rfl, ⟨D, h1, by unfold allO; rw [e1, e2]; exact h2, h3⟩, h4⟩
theorem size_lists (w0 : World) (B : Nat) (v : Value) (L : List (List Nat)) (w1 w : World) (h : AllW w0 w1 B v L) : Calls Tryz.prog 35 #[v] w fun e w' => e = .returned (.int .i64 (L.length : Int)) ∧ w = w' := by
  obtain ⟨a, cap, rfl⟩ := h.len
  clear h
  go_enter Tryz.func35, Tryz.ntmps35
  go_wp2
  go_ret
  exact ⟨rfl, rfl⟩
theorem setV_lay {F : Nat → Mk} {G : Nat → Value} {n : Nat} (h : ∀ k, k < n → MkLay (F k)) : ∀ k, k < n → MkLay (setV F G k) := h
theorem allO_set (c : Nat → Int) (n : Nat) (F : Nat → Mk) (G : Nat → Value) (P : List (List UInt8)) : allO c n (setV F G) P = allO c n F P := by
  unfold allO
  have : okPic c (setV F G) (c 0).toNat (c 1).toNat P = okPic c F (c 0).toNat (c 1).toNat P := rfl
  rw [this]
/-- How many, and the code. -/
noncomputable def coN (c : Nat → Int) (n : Nat) (F : Nat → Mk) (P : List (List UInt8)) : Int := if vmB c n F = true then ((allO c n F P).length : Int) else 0
noncomputable def coE (c : Nat → Int) (n : Nat) (F : Nat → Mk) : Int := if vmB c n F = true then 0 else 1
end Go.Proofs.YtifhffnppgkjgaaGreatDoor
