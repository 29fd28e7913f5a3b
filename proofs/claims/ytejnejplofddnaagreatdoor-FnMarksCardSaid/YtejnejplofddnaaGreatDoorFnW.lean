/- The statement FnMarks: the walk. -/
import Derived.Test.YtejnejplofddnaaGreatDoorFnP
import Derived.Test.YtejnejplofddnaaGreatDoorGqR
import Derived.Test.YtejnejplofddnaaGreatDoorGqP
import Derived.Test.YtejnejplofddnaaGreatDoorGqC
import Derived.Deep.DeepCutAuto
namespace Go.Proofs.YtejnejplofddnaaGreatDoor
open Go.RowKit
set_option linter.unusedVariables false
set_option linter.unusedSimpArgs false
set_option maxRecDepth 100000
theorem CodeIn.up {B B' : Nat} {w : World} {a : Option Addr} {len : Nat} (h : CodeIn B w a len) (hB : B ≤ B') : CodeIn B' w a len := by
  refine ⟨h.1, ?_⟩
  rcases h.2 with h0 | ⟨g, o, h1, h2, h3⟩
  · exact .inl h0
  · exact .inr ⟨g, o, h1, by omega, h3⟩
theorem codeIn_of {w : World} {a : Option Addr} {n c : Nat} {f : Nat → Int} (h : SlA .u8 1 w (.slice a n c) n f) (hn : n ≤ 9223372036854775807) (hw : ∀ j, j < n * 1 → (Lit.int .u8 (f j)).wf = true) : CodeIn w.heap.size w a n := by
  refine ⟨hn, ?_⟩
  rcases Nat.eq_zero_or_pos n with h0 | h0
  · exact .inl h0
  · obtain ⟨g, o, cap, hv, hg, hc⟩ := h.pos h0
    simp only [Value.slice.injEq] at hv
    obtain ⟨rfl, -, -⟩ := hv
    refine .inr ⟨g, o, rfl, hg, hg, f, fun j hj => ⟨hc j (by omega), ?_⟩⟩
    have := hw j (by omega)
    unfold Lit.wf at this
    simp only [IntKind.min, IntKind.max, IntKind.bits, IntKind.signed] at this
    simp at this
    omega
theorem iPaint_ok (c : Nat → Int) (hfc : FitSheet c) (v : Value) (n b : Nat) (F : Nat → Mk) (hn : n ≤ 1048576) (hF : ∀ k, k < n → MkIn (F k) ∧ (F k).n ≤ 1048576) (hv : vmB c n F = true) (X : List Nat) (hX : X.length = n) (hp : PrmP (nl X) n n) (ov : Value) (bo : Nat) (w : World) (h : OwnM w b v n F) (ho : OwnK .i64 1 w bo ov n (nl X)) (hmx : MxW w) :
    Calls Tryz.prog 9 #[.agg (kc sk 266 c), v, ov] w fun e w' => ∃ v', e = .returned (.tuple #[v', .int .i64 0]) ∧ OwnT w' w.heap.size v' (picO c F X) ∧ Below w.heap.size w w' := by
  refine (iPaintMarks_any c hfc v n b F hn hF ov n bo (nl X) hn w h ho hmx).mono fun e w' hq => ?_
  obtain ⟨v', rfl, h1, h2⟩ := hq
  obtain ⟨e1, e2⟩ := pm_of hv hX hp
  rw [e1] at h1
  rw [e2]
  exact ⟨v', rfl, OwnT.of h1, h2⟩
theorem sPaint_ok (c : Nat → Int) (hfc : FitSheet c) (v : Value) (n b : Nat) (F : Nat → Mk) (hn : n ≤ 1048576) (hF : ∀ k, k < n → MkIn (F k) ∧ (F k).n ≤ 1048576) (hv : vmB c n F = true) (X : List Nat) (hX : X.length = n) (hp : PrmP (nl X) n n) (g co bo : Nat) (hco : n ≤ co) (w : World) (h : OwnM w b v n F) (ho : OwnK .i64 1 w bo (.slice (some ⟨g, 0, none⟩) n co) n (nl X)) :
    Calls Tryz.prog 10 #[.agg (kc sk 266 c), v, .slice (some ⟨g, 0, none⟩) n co] w fun e w' => ∃ v', e = .returned (.tuple #[v', .int .i64 0]) ∧ OwnT w' w.heap.size v' (picO c F X) ∧ Below w.heap.size w w' := by
  refine (sPaintMarks_any c hfc v n b F hn hF (.slice (some ⟨g, 0, none⟩) n co) n bo (nl X) hn w h ho (fun a cap he => by cases he; exact hco)).mono fun e w' hq => ?_
  obtain ⟨v', rfl, h1, h2⟩ := hq
  obtain ⟨e1, e2⟩ := pm_of hv hX hp
  rw [e1] at h1
  rw [e2]
  exact ⟨v', rfl, OwnT.of h1, h2⟩
theorem iOrder_ok (c : Nat → Int) (hfc : FitSheet c) (v : Value) (n b : Nat) (F : Nat → Mk) (hn : n ≤ 1048576) (hF : ∀ k, k < n → MkIn (F k) ∧ (F k).n ≤ 1048576) (hv : vmB c n F = true) (pv : Value) (bp : Nat) (P : List (List UInt8)) (hP : P.length ≤ 1048576) (m : List Nat) (L : List (List Nat)) (hall : allO c n F P = m :: L) (w : World) (h : OwnM w b v n F) (hpv : OwnT w bp pv P) (hmx : MxW w) :
    Calls Tryz.prog 11 #[.agg (kc sk 266 c), v, pv] w fun e w' => ∃ v', e = .returned (.tuple #[v', .int .i64 0]) ∧ OwnK .i64 1 w' w.heap.size v' n (nl m) ∧ Below w.heap.size w w' := by
  refine (iOrderFor_any c hfc v n b F hn hF pv bp P hP w h hpv hmx).mono fun e w' hq => ?_
  obtain ⟨v', rfl, h1, h2⟩ := hq
  obtain ⟨e1, e2⟩ := of_some hv hall
  have hml := (all_pic (m := m) (by rw [hall]; simp)).2.2.1
  rw [e1, hml] at h1
  rw [e2]
  exact ⟨v', rfl, h1, h2⟩
theorem iCount_ok (c : Nat → Int) (hfc : FitSheet c) (v : Value) (n b : Nat) (F : Nat → Mk) (hn : n ≤ 1048576) (hF : ∀ k, k < n → MkIn (F k) ∧ (F k).n ≤ 1048576) (hv : vmB c n F = true) (pv : Value) (bp : Nat) (P : List (List UInt8)) (hP : P.length ≤ 1048576) (m : List Nat) (L : List (List Nat)) (hall : allO c n F P = m :: L) (N : Nat) (hN : L.length + 1 = N) (w : World) (h : OwnM w b v n F) (hpv : OwnT w bp pv P) (hmx : MxW w) :
    Calls Tryz.prog 13 #[.agg (kc sk 266 c), v, pv] w fun e w' => e = .returned (.tuple #[.int .i64 (N : Int), .int .i64 0]) ∧ Below w.heap.size w w' := by
  refine (iCountOrders_any c hfc v n b F hn hF pv bp P hP w h hpv hmx).mono fun e w' hq => ?_
  obtain ⟨rfl, h2⟩ := hq
  obtain ⟨e1, e2⟩ := co_yes P hv
  rw [e1, e2, hall, ← hN]
  exact ⟨rfl, h2⟩
theorem iSurely_ok (c : Nat → Int) (hfc : FitSheet c) (v : Value) (n b : Nat) (F : Nat → Mk) (hn : n ≤ 1048576) (hF : ∀ k, k < n → MkIn (F k) ∧ (F k).n ≤ 1048576) (hv : vmB c n F = true) (pv : Value) (bp : Nat) (P : List (List UInt8)) (hP : P.length ≤ 1048576) (m : List Nat) (L : List (List Nat)) (hall : allO c n F P = m :: L) (i k : Nat) (hi : i < n) (hk : k < n) (hik : i ≠ k) (w : World) (h : OwnM w b v n F) (hpv : OwnT w bp pv P) (hmx : MxW w) :
    Calls Tryz.prog 22 #[.agg (kc sk 266 c), v, pv, .int .i64 (i : Int), .int .i64 (k : Int)] w fun e w' => e = .returned (.tuple #[.bool (suB (m :: L) i k), .int .i64 0]) ∧ Below w.heap.size w w' := by
  refine (iSurelyBefore_any c hfc v n b F hn hF pv bp P hP (i : Int) (k : Int) w h hpv hmx).mono fun e w' hq => ?_
  obtain ⟨rfl, h2⟩ := hq
  have hr : rngB n (i : Int) (k : Int) = true := by
    unfold rngB
    simp only [Bool.and_eq_true, inB_true, Bool.not_eq_true', beq_eq_false_iff_ne]
    refine ⟨by omega, by omega, by omega⟩
  obtain ⟨e1, e2⟩ := sur_some (P := P) hv hr (by rw [hall]; rfl)
  rw [e1, e2, hall, Int.toNat_natCast, Int.toNat_natCast]
  exact ⟨rfl, h2⟩
theorem sOrder_ok (c : Nat → Int) (hfc : FitSheet c) (v : Value) (n b : Nat) (F : Nat → Mk) (hn : n ≤ 1048576) (hF : ∀ k, k < n → MkIn (F k) ∧ (F k).n ≤ 1048576) (hv : vmB c n F = true) (pv : Value) (bp : Nat) (P : List (List UInt8)) (hP : P.length ≤ 1048576) (m : List Nat) (L : List (List Nat)) (hall : allO c n F P = m :: L) (w : World) (h : OwnM w b v n F) (hpv : OwnT w bp pv P) :
    Calls Tryz.prog 12 #[.agg (kc sk 266 c), v, pv] w fun e w' => ∃ v', e = .returned (.tuple #[v', .int .i64 0]) ∧ OwnK .i64 1 w' w.heap.size v' n (nl m) ∧ Below w.heap.size w w' := by
  refine (sOrderFor_any c hfc v n b F hn hF pv bp P hP w h hpv).mono fun e w' hq => ?_
  obtain ⟨v', rfl, h1, h2⟩ := hq
  obtain ⟨e1, e2⟩ := of_some hv hall
  have hml := (all_pic (m := m) (by rw [hall]; simp)).2.2.1
  rw [e1, hml] at h1
  rw [e2]
  exact ⟨v', rfl, h1, h2⟩
theorem sCount_ok (c : Nat → Int) (hfc : FitSheet c) (v : Value) (n b : Nat) (F : Nat → Mk) (hn : n ≤ 1048576) (hF : ∀ k, k < n → MkIn (F k) ∧ (F k).n ≤ 1048576) (hv : vmB c n F = true) (pv : Value) (bp : Nat) (P : List (List UInt8)) (hP : P.length ≤ 1048576) (m : List Nat) (L : List (List Nat)) (hall : allO c n F P = m :: L) (N : Nat) (hN : L.length + 1 = N) (w : World) (h : OwnM w b v n F) (hpv : OwnT w bp pv P) :
    Calls Tryz.prog 14 #[.agg (kc sk 266 c), v, pv] w fun e w' => e = .returned (.tuple #[.int .i64 (N : Int), .int .i64 0]) ∧ Below w.heap.size w w' := by
  refine (sCountOrders_any c hfc v n b F hn hF pv bp P hP w h hpv).mono fun e w' hq => ?_
  obtain ⟨rfl, h2⟩ := hq
  obtain ⟨e1, e2⟩ := co_yes P hv
  rw [e1, e2, hall, ← hN]
  exact ⟨rfl, h2⟩
theorem sSurely_ok (c : Nat → Int) (hfc : FitSheet c) (v : Value) (n b : Nat) (F : Nat → Mk) (hn : n ≤ 1048576) (hF : ∀ k, k < n → MkIn (F k) ∧ (F k).n ≤ 1048576) (hv : vmB c n F = true) (pv : Value) (bp : Nat) (P : List (List UInt8)) (hP : P.length ≤ 1048576) (m : List Nat) (L : List (List Nat)) (hall : allO c n F P = m :: L) (i k : Nat) (hi : i < n) (hk : k < n) (hik : i ≠ k) (w : World) (h : OwnM w b v n F) (hpv : OwnT w bp pv P) :
    Calls Tryz.prog 23 #[.agg (kc sk 266 c), v, pv, .int .i64 (i : Int), .int .i64 (k : Int)] w fun e w' => e = .returned (.tuple #[.bool (suB (m :: L) i k), .int .i64 0]) ∧ Below w.heap.size w w' := by
  refine (sSurelyBefore_any c hfc v n b F hn hF pv bp P hP (i : Int) (k : Int) w h hpv).mono fun e w' hq => ?_
  obtain ⟨rfl, h2⟩ := hq
  have hr : rngB n (i : Int) (k : Int) = true := by
    unfold rngB
    simp only [Bool.and_eq_true, inB_true, Bool.not_eq_true', beq_eq_false_iff_ne]
    refine ⟨by omega, by omega, by omega⟩
  obtain ⟨e1, e2⟩ := sur_some (P := P) hv hr (by rw [hall]; rfl)
  rw [e1, e2, hall, Int.toNat_natCast, Int.toNat_natCast]
  exact ⟨rfl, h2⟩
theorem iForged_ok (c : Nat → Int) (hfc : FitSheet c) (v : Value) (n b : Nat) (F : Nat → Mk) (hn : n ≤ 1048576) (hF : ∀ k, k < n → MkIn (F k) ∧ (F k).n ≤ 1048576) (hv : vmB c n F = true) (pv : Value) (bp : Nat) (P : List (List UInt8)) (hP : P.length ≤ 1048576) (m : List Nat) (L : List (List Nat)) (hall : allO c n F P = m :: L) (w : World) (h : OwnM w b v n F) (hpv : OwnT w bp pv P) (hmx : MxW w) :
    Calls Tryz.prog 15 #[.agg (kc sk 266 c), v, pv] w fun e w' => e = .returned (.tuple #[.int .i64 0, .int .i64 4]) ∧ Below w.heap.size w w' := by
  refine (iForgedMark_any c hfc v n b F hn hF pv bp P hP w h hpv hmx).mono fun e w' hq => ?_
  obtain ⟨rfl, h2⟩ := hq
  obtain ⟨e1, e2⟩ := fg_state hv (P := P) (by rw [hall]; simp)
  rw [e1, e2]
  exact ⟨rfl, h2⟩
theorem markTx_len2 (col : Int) (f : Nat → Int) (n : Nat) : (markTx col f n).length ≤ 1 + 4 * n := by
  unfold markTx
  split
  · rw [List.length_append, cellsTx_len]
    exact Nat.le_refl _
  · exact Nat.zero_le _
theorem text_ok (X : Mk) (hX : MkLay X) (b : Nat) (w : World) (h : OwnK .i8 2 w b X.v X.n X.f) :
    Calls Tryz.prog 20 #[.agg #[.int .i8 X.col, X.v]] w fun e w' => e = .returned (.string (tx (markTx X.col X.f X.n))) ∧ Below w.heap.size w w' :=
  iMarkText_any X.col (by have := hX.1; omega) X.v X.n X.f (by have := hX.2.1; omega) (fun j hj => by
    obtain ⟨a, b, ha, hb, e1, e2⟩ := hX.2.2 (j / 2) (by omega)
    rcases Nat.mod_two_eq_zero_or_one j with h0 | h1
    · rw [show j / 2 * 2 = j by omega] at e1
      omega
    · rw [show j / 2 * 2 + 1 = j by omega] at e2
      omega) w h.slA
theorem read_ok (X : Mk) (hX : MkLay X) (hr : rmC (markTx X.col X.f X.n) = X.col ∧ (∃ L, rmL (markTx X.col X.f X.n) = L ∧ L.length = X.n ∧ ∀ t, t < X.n * 2 → gOf L t = X.f t) ∧ rmE (markTx X.col X.f X.n) = 0) (w : World) (h : RdW w) :
    Calls Tryz.prog 19 #[.string (tx (markTx X.col X.f X.n))] w fun e w' => ∃ v, e = .returned (.tuple #[.agg #[.int .i8 X.col, v], .int .i64 0]) ∧ OwnK .i8 2 w' w.heap.size v X.n X.f ∧ Below w.heap.size w w' := by
  have hl := markTx_len2 X.col X.f X.n
  have hn := hX.2.1
  refine (iReadMark_any (markTx X.col X.f X.n) (by omega) w h).mono fun e w' hq => ?_
  obtain ⟨v, rfl, h1, h2⟩ := hq
  obtain ⟨e1, ⟨L, e2, e3, e4⟩, e5⟩ := hr
  rw [e2, e3] at h1
  rw [e1, e5]
  exact ⟨v, rfl, h1.congr e4, h2⟩
theorem ext2_of {R : Array Value} {o : Nat} {a b : Value} (h1 : R[o]? = some a) (h2 : R[o + 1]? = some b) : rowExt R o 2 = #[a, b] := by
  obtain ⟨q1, e1⟩ := Array.getElem?_eq_some_iff.1 h1
  obtain ⟨q2, e2⟩ := Array.getElem?_eq_some_iff.1 h2
  unfold rowExt
  apply Array.ext
  · simp; omega
  · intro j hj1 hj2
    simp at hj2
    have hj : j = 0 ∨ j = 1 := by omega
    rcases hj with rfl | rfl
    · simp [e1]
    · simp [e2]
/-- Where a number has been met last. -/
def Lst (T : List Nat) (i p : Nat) (x : Int) : Prop := (x = -1 ∧ ∀ j, j < p → T[j]? ≠ some i) ∨ ∃ j : Nat, j < p ∧ x = (j : Int) ∧ T[j]? = some i
theorem lst_start (T : List Nat) (i : Nat) : Lst T i 0 (-1) := .inl ⟨rfl, fun j hj => absurd hj (by omega)⟩
theorem lst_hit {T : List Nat} {i p : Nat} (h : T[p]? = some i) : Lst T i (p + 1) (p : Int) := .inr ⟨p, by omega, rfl, h⟩
theorem lst_miss {T : List Nat} {i p a : Nat} {x : Int} (hl : Lst T i p x) (h : T[p]? = some a) (hne : a ≠ i) : Lst T i (p + 1) x := by
  rcases hl with ⟨h1, h2⟩ | ⟨j, h1, h2, h3⟩
  · refine .inl ⟨h1, fun j hj e => ?_⟩
    rcases Nat.lt_succ_iff_lt_or_eq.1 hj with h4 | rfl
    · exact h2 j h4 e
    · rw [h] at e
      exact hne (Option.some.inj e)
  · exact .inr ⟨j, by omega, h2, h3⟩
theorem lst_end {T : List Nat} {i n : Nat} {x : Int} (hT : T.Nodup) (hn : T.length = n) (hi : i ∈ T) (hl : Lst T i n x) : x = ixL T i := by
  rcases hl with ⟨-, h2⟩ | ⟨j, -, h2, h3⟩
  · obtain ⟨j, hj, e⟩ := List.getElem_of_mem hi
    exact absurd (by rw [List.getElem?_eq_getElem hj, e]) (h2 j (by omega))
  · rw [h2, ixL_at hT h3]
set_option maxHeartbeats 32000000 in
theorem fnMarks_any (a0 a1 : Option Addr) (n0 n1 c0 c1 : Nat) (w : World) (h0 : CodeIn w.heap.size w a0 n0) (h1 : CodeIn w.heap.size w a1 n1) (hmx : MxW w) (hrd : RdW w) :
    Calls Tryz.prog 3 #[.slice a0 n0 c0, .slice a1 n1 c1] w fun e w' => e = .returned (.bool true) ∧ Below w.heap.size w w' := by
  have H0 := Lib.hid h0
  have H1 := Lib.hid h1
  have HMX := Lib.hid hmx
  have HRD := Lib.hid hrd
  have HA0 := fun w => a2Long_any a0 a1 n0 n1 c0 c1 w
  have hB : (decide (3000 < n0) || decide (3000 < n1)) = true ∨ (decide (3000 < n0) || decide (3000 < n1)) = false := by cases (decide (3000 < n0) || decide (3000 < n1)) <;> simp
  generalize (decide (3000 < n0) || decide (3000 < n1)) = bl at *
  rcases hB with rfl | rfl
  · have HA := Lib.hid HA0
    clear h0 h1 hmx hrd HA0
    go_enter Tryz.func3, Tryz.ntmps3
    go_wp2_with (go_at_call 5; refine (HA.out _).mono ?_; rintro e w1 ⟨rfl, hb1⟩; have r1 := keep_rowA hb1; have f1 := keep_frA hb1; have s1 := hb1.size; (try simp only [World.size_alloc, World.size_setCell, setRow_size, World.size_drew, size_drewNm] at r1 f1 s1))
    go_ret
    exact ⟨rfl, by repeat' (first | with_reducible exact Below.refl _ _ | with_reducible assumption | with_reducible refine Below.drew ?_ | with_reducible refine Below.drewN ?_ _ | with_reducible refine Below.alloc ?_ ?_ _ | with_reducible refine Below.setCell ?_ ?_ _ | with_reducible refine Below.setRow ?_ ?_ _ | with_reducible refine below_step (by assumption) ?_ ?_ | (show (_ : Nat) ≤ _; first | omega | (simp <;> omega)))⟩
  have HA := Lib.hid HA0
  clear h0 h1 hmx hrd HA0
  go_enter Tryz.func3, Tryz.ntmps3
  go_wp2_with (first | (go_at_call 5; refine (HA.out _).mono ?_; rintro e w1 ⟨rfl, hb1⟩; have r1 := keep_rowA hb1; have f1 := keep_frA hb1; have s1 := hb1.size; (try simp only [World.size_alloc, World.size_setCell, setRow_size, World.size_drew, size_drewNm] at r1 f1 s1)) | (go_at_call 6; refine (A2Sheet_any a0 n0 c0 _ (CodeIn.up (CodeIn.below H0.out (B' := w.heap.size) (by repeat' (first | with_reducible exact Below.refl _ _ | with_reducible assumption | with_reducible refine Below.drew ?_ | with_reducible refine Below.drewN ?_ _ | with_reducible refine Below.alloc ?_ ?_ _ | with_reducible refine Below.setCell ?_ ?_ _ | with_reducible refine Below.setRow ?_ ?_ _ | with_reducible refine below_step (by assumption) ?_ ?_ | (show (_ : Nat) ≤ _; first | omega | (simp <;> omega)))) (Nat.le_refl _)) (by first | omega | (simp <;> omega)))).mono ?_; rintro e wa ⟨c, W, H, rfl, hd, hba⟩; have HD := Lib.hid hd; clear hd; have r_hba := keep_rowA hba; have f_hba := keep_frA hba; have s_hba := hba.size; (try simp only [World.size_alloc, World.size_setCell, setRow_size, World.size_drew, size_drewNm] at r_hba f_hba s_hba)) | (go_at_call 7; refine (A2Marks_any a1 n1 c1 c W H HD.out _ (CodeIn.up (CodeIn.below H1.out (B' := w.heap.size) (by repeat' (first | with_reducible exact Below.refl _ _ | with_reducible assumption | with_reducible refine Below.drew ?_ | with_reducible refine Below.drewN ?_ _ | with_reducible refine Below.alloc ?_ ?_ _ | with_reducible refine Below.setCell ?_ ?_ _ | with_reducible refine Below.setRow ?_ ?_ _ | with_reducible refine below_step (by assumption) ?_ ?_ | (show (_ : Nat) ≤ _; first | omega | (simp <;> omega)))) (Nat.le_refl _)) (by first | omega | (simp <;> omega)))).mono ?_; rintro e wb ⟨v, Ms, rfl, hms, hl4, hg, hbb⟩; obtain ⟨av, cv, rfl⟩ := hms.1.len; have HMS := Lib.hid hms; have HG := Lib.hid hg; clear hms hg; have r_hbb := keep_rowA hbb; have f_hbb := keep_frA hbb; have s_hbb := hbb.size; (try simp only [World.size_alloc, World.size_setCell, setRow_size, World.size_drew, size_drewNm] at r_hbb f_hbb s_hbb)) | (go_at_call 8; refine (A2Order_any a0 n0 c0 Ms.length (by omega) _ (CodeIn.up (CodeIn.below H0.out (B' := w.heap.size) (by repeat' (first | with_reducible exact Below.refl _ _ | with_reducible assumption | with_reducible refine Below.drew ?_ | with_reducible refine Below.drewN ?_ _ | with_reducible refine Below.alloc ?_ ?_ _ | with_reducible refine Below.setCell ?_ ?_ _ | with_reducible refine Below.setRow ?_ ?_ _ | with_reducible refine below_step (by assumption) ?_ ?_ | (show (_ : Nat) ≤ _; first | omega | (simp <;> omega)))) (Nat.le_refl _)) (by first | omega | (simp <;> omega)))).mono ?_; rintro e wc ⟨gt, ct, T, rfl, hct, ht, hT, hbc⟩; have HT := Lib.hid ht; have HPT := Lib.hid hT; clear ht hT; have r_hbc := keep_rowA hbc; have f_hbc := keep_frA hbc; have s_hbc := hbc.size; (try simp only [World.size_alloc, World.size_setCell, setRow_size, World.size_drew, size_drewNm] at r_hbc f_hbc s_hbc)))
  have hok := HD.out.ok
  have hfc := HD.out.fit
  have hW := HD.out.w0
  have hH := HD.out.h0
  have hW5 := HD.out.w1
  have hH5 := HD.out.h1
  have hHW : H * W ≤ 25 := Nat.le_trans (Nat.mul_le_mul hH5.2 hW5.2) (by decide)
  have hH8W : H * W ≤ 8 * W := Nat.mul_le_mul_right _ (by omega)
  have hgk : ∀ k, k < Ms.length → ∃ x, mkF W Ms k = mkM W x ∧ GoodM c W (H * W) x := fun k hk => ⟨Ms[k], mkF_at (List.getElem?_eq_getElem hk), HG.out _ (List.getElem_mem hk)⟩
  have hvm := good_vm hok hW hH (by omega) (by omega : Ms.length ≤ 6) hgk
  have hFin : ∀ k, k < Ms.length → MkIn (mkF W Ms k) ∧ (mkF W Ms k).n ≤ 1048576 := fun k hk => by
    obtain ⟨x, e, hx⟩ := hgk k hk
    rw [e]
    obtain ⟨q1, q2⟩ := good_in (by omega) (by omega) (by omega) hx
    exact ⟨q1, by omega⟩
  have hread : ∀ k, k < Ms.length → rmC (markTx (mkF W Ms k).col (mkF W Ms k).f (mkF W Ms k).n) = (mkF W Ms k).col ∧ (∃ L, rmL (markTx (mkF W Ms k).col (mkF W Ms k).f (mkF W Ms k).n) = L ∧ L.length = (mkF W Ms k).n ∧ ∀ t, t < (mkF W Ms k).n * 2 → gOf L t = (mkF W Ms k).f t) ∧ rmE (markTx (mkF W Ms k).col (mkF W Ms k).f (mkF W Ms k).n) = 0 := fun k hk => by
    obtain ⟨x, e, hx⟩ := hgk k hk
    rw [e]
    obtain ⟨q1, q2, q3⟩ := good_read (by omega) (by omega) hH8W hx
    exact ⟨q1, ⟨_, q2, plL_len W x.2.2, fun t ht => plL_fM ht⟩, q3⟩
  obtain ⟨-, -, hlay⟩ := vm_lay hvm
  have hTl : T.length = Ms.length := by rw [HPT.out.length_eq, List.length_range]
  have hTp := perm_prm HPT.out
  have hTi : ∀ i ∈ T, i < Ms.length := fun i hi => List.mem_range.1 (HPT.out.mem_iff.1 hi)
  have hTm : ∀ i, i < Ms.length → i ∈ T := fun i hi => HPT.out.mem_iff.2 (List.mem_range.2 hi)
  have hTn : T.Nodup := HPT.out.nodup_iff.2 List.nodup_range
  have hTin := turn_in (c := c) (F := mkF W Ms) HPT.out
  have hMc : OwnM wc _ (.slice av Ms.length cv) Ms.length (mkF W Ms) := HMS.out.below (by repeat' (first | with_reducible exact Below.refl _ _ | with_reducible assumption | with_reducible refine Below.drew ?_ | with_reducible refine Below.drewN ?_ _ | with_reducible refine Below.alloc ?_ ?_ _ | with_reducible refine Below.setCell ?_ ?_ _ | with_reducible refine Below.setRow ?_ ?_ _ | with_reducible refine below_step (by assumption) ?_ ?_ | (show (_ : Nat) ≤ _; first | omega | (simp <;> omega)))) (Nat.le_refl _)
  have hTc := HT.out
  have hsh : rowOf wc wa.heap.size = kc sk 266 c := by (go_simp <;> (intros; omega))
  have hbw : Below w.heap.size w wc := by repeat' (first | with_reducible exact Below.refl _ _ | with_reducible assumption | with_reducible refine Below.drew ?_ | with_reducible refine Below.drewN ?_ _ | with_reducible refine Below.alloc ?_ ?_ _ | with_reducible refine Below.setCell ?_ ?_ _ | with_reducible refine Below.setRow ?_ ?_ _ | with_reducible refine below_step (by assumption) ?_ ?_ | (show (_ : Nat) ≤ _; first | omega | (simp <;> omega)))
  have hBs : wa.heap.size < wc.heap.size := by first | omega | (simp at *; omega)
  have hwa : w.heap.size ≤ wa.heap.size := by first | omega | (simp at *; omega)
  have HMXc := Lib.hid (HMX.out.below hbw)
  have HRDc := Lib.hid (HRD.out.below hbw)
  have hP0 : T ∈ allO c Ms.length (mkF W Ms) (picO c (mkF W Ms) T) := hTin
  have hPl : (picO c (mkF W Ms) T).length ≤ 1048576 := by unfold picO; rw [linB_len, hH]; omega
  have hPH : ((picO c (mkF W Ms) T).length : Int) = c 1 := by unfold picO; rw [linB_len, hH, Int.toNat_natCast]
  have hPat : ∀ y x, y < H → x < W → ∃ row, (picO c (mkF W Ms) T)[y]? = some row ∧ row.length = W ∧ row[x]? = some (chP c (pntG (mkF W Ms) T) x y) := fun y x hy hx => by
    unfold picO
    rw [hW, hH, Int.toNat_natCast, Int.toNat_natCast]
    exact ⟨_, linB_at _ W hy, rowB_len _ _ _, rowB_at _ _ hx⟩
  have hn6 : Ms.length ≤ 1048576 := by omega
  have HM := Lib.hid hMc
  have HT := Lib.hid hTc
  have HFI := Lib.hid hFin
  have HRE := Lib.hid hread
  have HLAY := Lib.hid hlay
  have HPA := Lib.hid hPat
  have hLd := (fun k (hk : k < Ms.length) => (hlay k hk).1)
  clear hMc hTc hFin hread hlay hPat HMS HG hgk HPT HD r1 f1 r_hba f_hba r_hbb f_hbb r_hbc f_hbc hb1 hba hbb hbc hTin H0 H1 HA HMX HRD
  obtain ⟨n, hn⟩ : ∃ n, Ms.length = n := ⟨_, rfl⟩
  generalize mkF W Ms = F at *
  rw [hn] at HM HT HFI HRE HLAY hTl hTp hTi hTm hP0 hn6 hl4 hvm hct hLd ⊢
  clear hn
  obtain ⟨P, hP⟩ : ∃ P, picO c F T = P := ⟨_, rfl⟩
  rw [hP] at hP0 hPl hPH HPA
  obtain ⟨m, L, hall⟩ : ∃ m L, allO c n F P = m :: L := by
    cases h : allO c n F P with
    | nil => rw [h] at hP0; cases hP0
    | cons m L => exact ⟨m, L, rfl⟩
  have hmA : m ∈ allO c n F P := by rw [hall]; simp
  obtain ⟨hmP, hmp, hml, hmi⟩ := all_pic hmA
  obtain ⟨N, hN⟩ : ∃ N, L.length + 1 = N := ⟨_, rfl⟩
  go_wp2_with (go_at_call 9; refine (iPaint_ok c hfc (.slice av n cv) n _ F hn6 HFI.out hvm T hTl hTp (.slice (some ⟨gt, 0, none⟩) n ct) _ _ (HM.out.below (by repeat' (first | with_reducible exact Below.refl _ _ | with_reducible assumption | with_reducible refine Below.drew ?_ | with_reducible refine Below.drewN ?_ _ | with_reducible refine Below.alloc ?_ ?_ _ | with_reducible refine Below.setCell ?_ ?_ _ | with_reducible refine Below.setRow ?_ ?_ _ | with_reducible refine below_step (by assumption) ?_ ?_ | (show (_ : Nat) ≤ _; first | omega | (simp <;> omega)))) (Nat.le_refl _)) (HT.out.below (by repeat' (first | with_reducible exact Below.refl _ _ | with_reducible assumption | with_reducible refine Below.drew ?_ | with_reducible refine Below.drewN ?_ _ | with_reducible refine Below.alloc ?_ ?_ _ | with_reducible refine Below.setCell ?_ ?_ _ | with_reducible refine Below.setRow ?_ ?_ _ | with_reducible refine below_step (by assumption) ?_ ?_ | (show (_ : Nat) ≤ _; first | omega | (simp <;> omega)))) (Nat.le_refl _)) (HMXc.out.below (by repeat' (first | with_reducible exact Below.refl _ _ | with_reducible assumption | with_reducible refine Below.drew ?_ | with_reducible refine Below.drewN ?_ _ | with_reducible refine Below.alloc ?_ ?_ _ | with_reducible refine Below.setCell ?_ ?_ _ | with_reducible refine Below.setRow ?_ ?_ _ | with_reducible refine below_step (by assumption) ?_ ?_ | (show (_ : Nat) ≤ _; first | omega | (simp <;> omega)))))).mono ?_; rintro e wd ⟨vp, rfl, ho, hbwd⟩; rw [hP] at ho; obtain ⟨ap, cp, rfl⟩ := ho.len; have HPI := Lib.hid ho; clear ho; have r_hbwd := keep_rowA hbwd; have f_hbwd := keep_frA hbwd; have s_hbwd := hbwd.size; (try simp only [World.size_alloc, World.size_setCell, setRow_size, World.size_drew, size_drewNm] at r_hbwd f_hbwd s_hbwd))
  go_wp2_with (go_at_call 10; refine (sPaint_ok c hfc (.slice av n cv) n _ F hn6 HFI.out hvm T hTl hTp gt ct _ hct _ (HM.out.below (by repeat' (first | with_reducible exact Below.refl _ _ | with_reducible assumption | with_reducible refine Below.drew ?_ | with_reducible refine Below.drewN ?_ _ | with_reducible refine Below.alloc ?_ ?_ _ | with_reducible refine Below.setCell ?_ ?_ _ | with_reducible refine Below.setRow ?_ ?_ _ | with_reducible refine below_step (by assumption) ?_ ?_ | (show (_ : Nat) ≤ _; first | omega | (simp <;> omega)))) (Nat.le_refl _)) (HT.out.below (by repeat' (first | with_reducible exact Below.refl _ _ | with_reducible assumption | with_reducible refine Below.drew ?_ | with_reducible refine Below.drewN ?_ _ | with_reducible refine Below.alloc ?_ ?_ _ | with_reducible refine Below.setCell ?_ ?_ _ | with_reducible refine Below.setRow ?_ ?_ _ | with_reducible refine below_step (by assumption) ?_ ?_ | (show (_ : Nat) ≤ _; first | omega | (simp <;> omega)))) (Nat.le_refl _))).mono ?_; rintro e we ⟨vd, rfl, ho, hbwe⟩; rw [hP] at ho; obtain ⟨ad, cd, rfl⟩ := ho.len; have HDU := Lib.hid ho; clear ho; have r_hbwe := keep_rowA hbwe; have f_hbwe := keep_frA hbwe; have s_hbwe := hbwe.size; (try simp only [World.size_alloc, World.size_setCell, setRow_size, World.size_drew, size_drewNm] at r_hbwe f_hbwe s_hbwe))
  go_wp2_with (go_at_call 11; refine (iOrder_ok c hfc (.slice av n cv) n _ F hn6 HFI.out hvm _ _ P hPl m L hall _ (HM.out.below (by repeat' (first | with_reducible exact Below.refl _ _ | with_reducible assumption | with_reducible refine Below.drew ?_ | with_reducible refine Below.drewN ?_ _ | with_reducible refine Below.alloc ?_ ?_ _ | with_reducible refine Below.setCell ?_ ?_ _ | with_reducible refine Below.setRow ?_ ?_ _ | with_reducible refine below_step (by assumption) ?_ ?_ | (show (_ : Nat) ≤ _; first | omega | (simp <;> omega)))) (Nat.le_refl _)) (HDU.out.below (by repeat' (first | with_reducible exact Below.refl _ _ | with_reducible assumption | with_reducible refine Below.drew ?_ | with_reducible refine Below.drewN ?_ _ | with_reducible refine Below.alloc ?_ ?_ _ | with_reducible refine Below.setCell ?_ ?_ _ | with_reducible refine Below.setRow ?_ ?_ _ | with_reducible refine below_step (by assumption) ?_ ?_ | (show (_ : Nat) ≤ _; first | omega | (simp <;> omega)))) (Nat.le_refl _)) (HMXc.out.below (by repeat' (first | with_reducible exact Below.refl _ _ | with_reducible assumption | with_reducible refine Below.drew ?_ | with_reducible refine Below.drewN ?_ _ | with_reducible refine Below.alloc ?_ ?_ _ | with_reducible refine Below.setCell ?_ ?_ _ | with_reducible refine Below.setRow ?_ ?_ _ | with_reducible refine below_step (by assumption) ?_ ?_ | (show (_ : Nat) ≤ _; first | omega | (simp <;> omega)))))).mono ?_; rintro e wf ⟨vo, rfl, ho, hbwf⟩; obtain ⟨ao, co, rfl⟩ := ho.len; have HOI := Lib.hid ho; clear ho; have r_hbwf := keep_rowA hbwf; have f_hbwf := keep_frA hbwf; have s_hbwf := hbwf.size; (try simp only [World.size_alloc, World.size_setCell, setRow_size, World.size_drew, size_drewNm] at r_hbwf f_hbwf s_hbwf))
  go_wp2_with (go_at_call 12; refine (sOrder_ok c hfc (.slice av n cv) n _ F hn6 HFI.out hvm _ _ P hPl m L hall _ (HM.out.below (by repeat' (first | with_reducible exact Below.refl _ _ | with_reducible assumption | with_reducible refine Below.drew ?_ | with_reducible refine Below.drewN ?_ _ | with_reducible refine Below.alloc ?_ ?_ _ | with_reducible refine Below.setCell ?_ ?_ _ | with_reducible refine Below.setRow ?_ ?_ _ | with_reducible refine below_step (by assumption) ?_ ?_ | (show (_ : Nat) ≤ _; first | omega | (simp <;> omega)))) (Nat.le_refl _)) (HDU.out.below (by repeat' (first | with_reducible exact Below.refl _ _ | with_reducible assumption | with_reducible refine Below.drew ?_ | with_reducible refine Below.drewN ?_ _ | with_reducible refine Below.alloc ?_ ?_ _ | with_reducible refine Below.setCell ?_ ?_ _ | with_reducible refine Below.setRow ?_ ?_ _ | with_reducible refine below_step (by assumption) ?_ ?_ | (show (_ : Nat) ≤ _; first | omega | (simp <;> omega)))) (Nat.le_refl _))).mono ?_; rintro e wg ⟨vf, rfl, ho, hbwg⟩; obtain ⟨af, cf, rfl⟩ := ho.len; have HFO := Lib.hid ho; clear ho; have r_hbwg := keep_rowA hbwg; have f_hbwg := keep_frA hbwg; have s_hbwg := hbwg.size; (try simp only [World.size_alloc, World.size_setCell, setRow_size, World.size_drew, size_drewNm] at r_hbwg f_hbwg s_hbwg))
  go_wp2_with (go_at_call 13; refine (iCount_ok c hfc (.slice av n cv) n _ F hn6 HFI.out hvm _ _ P hPl m L hall N hN _ (HM.out.below (by repeat' (first | with_reducible exact Below.refl _ _ | with_reducible assumption | with_reducible refine Below.drew ?_ | with_reducible refine Below.drewN ?_ _ | with_reducible refine Below.alloc ?_ ?_ _ | with_reducible refine Below.setCell ?_ ?_ _ | with_reducible refine Below.setRow ?_ ?_ _ | with_reducible refine below_step (by assumption) ?_ ?_ | (show (_ : Nat) ≤ _; first | omega | (simp <;> omega)))) (Nat.le_refl _)) (HDU.out.below (by repeat' (first | with_reducible exact Below.refl _ _ | with_reducible assumption | with_reducible refine Below.drew ?_ | with_reducible refine Below.drewN ?_ _ | with_reducible refine Below.alloc ?_ ?_ _ | with_reducible refine Below.setCell ?_ ?_ _ | with_reducible refine Below.setRow ?_ ?_ _ | with_reducible refine below_step (by assumption) ?_ ?_ | (show (_ : Nat) ≤ _; first | omega | (simp <;> omega)))) (Nat.le_refl _)) (HMXc.out.below (by repeat' (first | with_reducible exact Below.refl _ _ | with_reducible assumption | with_reducible refine Below.drew ?_ | with_reducible refine Below.drewN ?_ _ | with_reducible refine Below.alloc ?_ ?_ _ | with_reducible refine Below.setCell ?_ ?_ _ | with_reducible refine Below.setRow ?_ ?_ _ | with_reducible refine below_step (by assumption) ?_ ?_ | (show (_ : Nat) ≤ _; first | omega | (simp <;> omega)))))).mono ?_; rintro e wh ⟨rfl, hbwh⟩; have r_hbwh := keep_rowA hbwh; have f_hbwh := keep_frA hbwh; have s_hbwh := hbwh.size; (try simp only [World.size_alloc, World.size_setCell, setRow_size, World.size_drew, size_drewNm] at r_hbwh f_hbwh s_hbwh))
  go_wp2_with (go_at_call 14; refine (sCount_ok c hfc (.slice av n cv) n _ F hn6 HFI.out hvm _ _ P hPl m L hall N hN _ (HM.out.below (by repeat' (first | with_reducible exact Below.refl _ _ | with_reducible assumption | with_reducible refine Below.drew ?_ | with_reducible refine Below.drewN ?_ _ | with_reducible refine Below.alloc ?_ ?_ _ | with_reducible refine Below.setCell ?_ ?_ _ | with_reducible refine Below.setRow ?_ ?_ _ | with_reducible refine below_step (by assumption) ?_ ?_ | (show (_ : Nat) ≤ _; first | omega | (simp <;> omega)))) (Nat.le_refl _)) (HDU.out.below (by repeat' (first | with_reducible exact Below.refl _ _ | with_reducible assumption | with_reducible refine Below.drew ?_ | with_reducible refine Below.drewN ?_ _ | with_reducible refine Below.alloc ?_ ?_ _ | with_reducible refine Below.setCell ?_ ?_ _ | with_reducible refine Below.setRow ?_ ?_ _ | with_reducible refine below_step (by assumption) ?_ ?_ | (show (_ : Nat) ≤ _; first | omega | (simp <;> omega)))) (Nat.le_refl _))).mono ?_; rintro e wi ⟨rfl, hbwi⟩; have r_hbwi := keep_rowA hbwi; have f_hbwi := keep_frA hbwi; have s_hbwi := hbwi.size; (try simp only [World.size_alloc, World.size_setCell, setRow_size, World.size_drew, size_drewNm] at r_hbwi f_hbwi s_hbwi))
  go_wp2_with (go_at_call 15; refine (iForged_ok c hfc (.slice av n cv) n _ F hn6 HFI.out hvm _ _ P hPl m L hall _ (HM.out.below (by repeat' (first | with_reducible exact Below.refl _ _ | with_reducible assumption | with_reducible refine Below.drew ?_ | with_reducible refine Below.drewN ?_ _ | with_reducible refine Below.alloc ?_ ?_ _ | with_reducible refine Below.setCell ?_ ?_ _ | with_reducible refine Below.setRow ?_ ?_ _ | with_reducible refine below_step (by assumption) ?_ ?_ | (show (_ : Nat) ≤ _; first | omega | (simp <;> omega)))) (Nat.le_refl _)) (HDU.out.below (by repeat' (first | with_reducible exact Below.refl _ _ | with_reducible assumption | with_reducible refine Below.drew ?_ | with_reducible refine Below.drewN ?_ _ | with_reducible refine Below.alloc ?_ ?_ _ | with_reducible refine Below.setCell ?_ ?_ _ | with_reducible refine Below.setRow ?_ ?_ _ | with_reducible refine below_step (by assumption) ?_ ?_ | (show (_ : Nat) ≤ _; first | omega | (simp <;> omega)))) (Nat.le_refl _)) (HMXc.out.below (by repeat' (first | with_reducible exact Below.refl _ _ | with_reducible assumption | with_reducible refine Below.drew ?_ | with_reducible refine Below.drewN ?_ _ | with_reducible refine Below.alloc ?_ ?_ _ | with_reducible refine Below.setCell ?_ ?_ _ | with_reducible refine Below.setRow ?_ ?_ _ | with_reducible refine below_step (by assumption) ?_ ?_ | (show (_ : Nat) ≤ _; first | omega | (simp <;> omega)))))).mono ?_; rintro e wj ⟨rfl, hbwj⟩; have r_hbwj := keep_rowA hbwj; have f_hbwj := keep_frA hbwj; have s_hbwj := hbwj.size; (try simp only [World.size_alloc, World.size_setCell, setRow_size, World.size_drew, size_drewNm] at r_hbwj f_hbwj s_hbwj))
  have hshj : rowOf wj wa.heap.size = kc sk 266 c := by (go_simp <;> (intros; omega))
  have hBj : wa.heap.size < wj.heap.size := by omega
  have HPIj := Lib.hid (HPI.out.below (show Below wd.heap.size wd wj from by repeat' (first | with_reducible exact Below.refl _ _ | with_reducible assumption | with_reducible refine Below.drew ?_ | with_reducible refine Below.drewN ?_ _ | with_reducible refine Below.alloc ?_ ?_ _ | with_reducible refine Below.setCell ?_ ?_ _ | with_reducible refine Below.setRow ?_ ?_ _ | with_reducible refine below_step (by assumption) ?_ ?_ | (show (_ : Nat) ≤ _; first | omega | (simp <;> omega)))) (Nat.le_refl _))
  have HDUj := Lib.hid (HDU.out.below (show Below we.heap.size we wj from by repeat' (first | with_reducible exact Below.refl _ _ | with_reducible assumption | with_reducible refine Below.drew ?_ | with_reducible refine Below.drewN ?_ _ | with_reducible refine Below.alloc ?_ ?_ _ | with_reducible refine Below.setCell ?_ ?_ _ | with_reducible refine Below.setRow ?_ ?_ _ | with_reducible refine below_step (by assumption) ?_ ?_ | (show (_ : Nat) ≤ _; first | omega | (simp <;> omega)))) (Nat.le_refl _))
  have HOIj := Lib.hid (HOI.out.below (show Below wf.heap.size wf wj from by repeat' (first | with_reducible exact Below.refl _ _ | with_reducible assumption | with_reducible refine Below.drew ?_ | with_reducible refine Below.drewN ?_ _ | with_reducible refine Below.alloc ?_ ?_ _ | with_reducible refine Below.setCell ?_ ?_ _ | with_reducible refine Below.setRow ?_ ?_ _ | with_reducible refine below_step (by assumption) ?_ ?_ | (show (_ : Nat) ≤ _; first | omega | (simp <;> omega)))) (Nat.le_refl _))
  have HFOj := Lib.hid (HFO.out.below (show Below wg.heap.size wg wj from by repeat' (first | with_reducible exact Below.refl _ _ | with_reducible assumption | with_reducible refine Below.drew ?_ | with_reducible refine Below.drewN ?_ _ | with_reducible refine Below.alloc ?_ ?_ _ | with_reducible refine Below.setCell ?_ ?_ _ | with_reducible refine Below.setRow ?_ ?_ _ | with_reducible refine below_step (by assumption) ?_ ?_ | (show (_ : Nat) ≤ _; first | omega | (simp <;> omega)))) (Nat.le_refl _))
  have HMj := Lib.hid (HM.out.below (show Below wc.heap.size wc wj from by repeat' (first | with_reducible exact Below.refl _ _ | with_reducible assumption | with_reducible refine Below.drew ?_ | with_reducible refine Below.drewN ?_ _ | with_reducible refine Below.alloc ?_ ?_ _ | with_reducible refine Below.setCell ?_ ?_ _ | with_reducible refine Below.setRow ?_ ?_ _ | with_reducible refine below_step (by assumption) ?_ ?_ | (show (_ : Nat) ≤ _; first | omega | (simp <;> omega)))) (Nat.le_refl _))
  have HTj := Lib.hid (HT.out.below (show Below wc.heap.size wc wj from by repeat' (first | with_reducible exact Below.refl _ _ | with_reducible assumption | with_reducible refine Below.drew ?_ | with_reducible refine Below.drewN ?_ _ | with_reducible refine Below.alloc ?_ ?_ _ | with_reducible refine Below.setCell ?_ ?_ _ | with_reducible refine Below.setRow ?_ ?_ _ | with_reducible refine below_step (by assumption) ?_ ?_ | (show (_ : Nat) ≤ _; first | omega | (simp <;> omega)))) (Nat.le_refl _))
  have HMXj := Lib.hid (HMXc.out.below (show Below wc.heap.size wc wj from by repeat' (first | with_reducible exact Below.refl _ _ | with_reducible assumption | with_reducible refine Below.drew ?_ | with_reducible refine Below.drewN ?_ _ | with_reducible refine Below.alloc ?_ ?_ _ | with_reducible refine Below.setCell ?_ ?_ _ | with_reducible refine Below.setRow ?_ ?_ _ | with_reducible refine below_step (by assumption) ?_ ?_ | (show (_ : Nat) ≤ _; first | omega | (simp <;> omega)))))
  have HRDj := Lib.hid (HRDc.out.below (show Below wc.heap.size wc wj from by repeat' (first | with_reducible exact Below.refl _ _ | with_reducible assumption | with_reducible refine Below.drew ?_ | with_reducible refine Below.drewN ?_ _ | with_reducible refine Below.alloc ?_ ?_ _ | with_reducible refine Below.setCell ?_ ?_ _ | with_reducible refine Below.setRow ?_ ?_ _ | with_reducible refine below_step (by assumption) ?_ ?_ | (show (_ : Nat) ≤ _; first | omega | (simp <;> omega)))))
  have hbj : Below w.heap.size w wj := by repeat' (first | with_reducible exact Below.refl _ _ | with_reducible assumption | with_reducible refine Below.drew ?_ | with_reducible refine Below.drewN ?_ _ | with_reducible refine Below.alloc ?_ ?_ _ | with_reducible refine Below.setCell ?_ ?_ _ | with_reducible refine Below.setRow ?_ ?_ _ | with_reducible refine below_step (by assumption) ?_ ?_ | (show (_ : Nat) ≤ _; first | omega | (simp <;> omega)))
  clear r_hbwd f_hbwd r_hbwe f_hbwe r_hbwf f_hbwf r_hbwg f_hbwg r_hbwh f_hbwh r_hbwi f_hbwi r_hbwj f_hbwj hbwd hbwe hbwf hbwg hbwh hbwi hbwj hsh hbw HPI HDU HOI HFO HM HT HMXc HRDc
  have hself : eqL P P = true := eqL_refl P
  have hwc1 : IntKind.i64.wrap (c 1) = c 1 := IntWalk.i64_in _ (by omega)
  have hq1 : ((P.length : Int) == c 1) = true := by rw [beq_iff_eq]; exact hPH
  have hq2 : ((P.length : Int) != c 1) = false := by rw [bne, hq1]; rfl
  have hN1 : ¬ (N : Int) < 1 := by omega
  have hN2 : decide ((N : Int) < 1) = false := decide_eq_false hN1
  have HROWS := Lib.hid (fun v1 v2 b1 b2 w h1 h2 => hself ▸ A2SameRows_any v1 v2 b1 b2 P P hPl hPl w h1 h2)
  have HVAL := Lib.hid (fun b w h => hvm ▸ iValidMarks_any c hfc (.slice av n cv) n b F hn6 HFI.out w h)
  go_wp2_with (first | (go_at_call 16; refine (HROWS.out _ _ _ _ _ (HPIj.out.below (by repeat' (first | with_reducible exact Below.refl _ _ | with_reducible assumption | with_reducible refine Below.drew ?_ | with_reducible refine Below.drewN ?_ _ | with_reducible refine Below.alloc ?_ ?_ _ | with_reducible refine Below.setCell ?_ ?_ _ | with_reducible refine Below.setRow ?_ ?_ _ | with_reducible refine below_step (by assumption) ?_ ?_ | (show (_ : Nat) ≤ _; first | omega | (simp <;> omega)))) (Nat.le_refl _)) (HDUj.out.below (by repeat' (first | with_reducible exact Below.refl _ _ | with_reducible assumption | with_reducible refine Below.drew ?_ | with_reducible refine Below.drewN ?_ _ | with_reducible refine Below.alloc ?_ ?_ _ | with_reducible refine Below.setCell ?_ ?_ _ | with_reducible refine Below.setRow ?_ ?_ _ | with_reducible refine below_step (by assumption) ?_ ?_ | (show (_ : Nat) ≤ _; first | omega | (simp <;> omega)))) (Nat.le_refl _))).mono ?_; rintro e wk ⟨rfl, hbwk⟩; have r_hbwk := keep_rowA hbwk; have f_hbwk := keep_frA hbwk; have s_hbwk := hbwk.size; (try simp only [World.size_alloc, World.size_setCell, setRow_size, World.size_drew, size_drewNm] at r_hbwk f_hbwk s_hbwk)) | (go_at_call 17; refine (A2Same_own _ _ n _ _ (nl m) (by omega) _ (HOIj.out.below (by repeat' (first | with_reducible exact Below.refl _ _ | with_reducible assumption | with_reducible refine Below.drew ?_ | with_reducible refine Below.drewN ?_ _ | with_reducible refine Below.alloc ?_ ?_ _ | with_reducible refine Below.setCell ?_ ?_ _ | with_reducible refine Below.setRow ?_ ?_ _ | with_reducible refine below_step (by assumption) ?_ ?_ | (show (_ : Nat) ≤ _; first | omega | (simp <;> omega)))) (Nat.le_refl _)) (HFOj.out.below (by repeat' (first | with_reducible exact Below.refl _ _ | with_reducible assumption | with_reducible refine Below.drew ?_ | with_reducible refine Below.drewN ?_ _ | with_reducible refine Below.alloc ?_ ?_ _ | with_reducible refine Below.setCell ?_ ?_ _ | with_reducible refine Below.setRow ?_ ?_ _ | with_reducible refine below_step (by assumption) ?_ ?_ | (show (_ : Nat) ≤ _; first | omega | (simp <;> omega)))) (Nat.le_refl _))).mono ?_; rintro e wl ⟨rfl, hbwl⟩; have r_hbwl := keep_rowA hbwl; have f_hbwl := keep_frA hbwl; have s_hbwl := hbwl.size; (try simp only [World.size_alloc, World.size_setCell, setRow_size, World.size_drew, size_drewNm] at r_hbwl f_hbwl s_hbwl)) | (go_at_call 18; refine (HVAL.out _ _ (HMj.out.below (by repeat' (first | with_reducible exact Below.refl _ _ | with_reducible assumption | with_reducible refine Below.drew ?_ | with_reducible refine Below.drewN ?_ _ | with_reducible refine Below.alloc ?_ ?_ _ | with_reducible refine Below.setCell ?_ ?_ _ | with_reducible refine Below.setRow ?_ ?_ _ | with_reducible refine below_step (by assumption) ?_ ?_ | (show (_ : Nat) ≤ _; first | omega | (simp <;> omega)))) (Nat.le_refl _))).mono ?_; rintro e wm ⟨rfl, hbwm⟩; have r_hbwm := keep_rowA hbwm; have f_hbwm := keep_frA hbwm; have s_hbwm := hbwm.size; (try simp only [World.size_alloc, World.size_setCell, setRow_size, World.size_drew, size_drewNm] at r_hbwm f_hbwm s_hbwm)))
  go_wp2_with (go_at_call 9; refine (iPaint_ok c hfc (.slice av n cv) n _ F hn6 HFI.out hvm m hml hmp (.slice af n cf) _ _ (HMj.out.below (by repeat' (first | with_reducible exact Below.refl _ _ | with_reducible assumption | with_reducible refine Below.drew ?_ | with_reducible refine Below.drewN ?_ _ | with_reducible refine Below.alloc ?_ ?_ _ | with_reducible refine Below.setCell ?_ ?_ _ | with_reducible refine Below.setRow ?_ ?_ _ | with_reducible refine below_step (by assumption) ?_ ?_ | (show (_ : Nat) ≤ _; first | omega | (simp <;> omega)))) (Nat.le_refl _)) (HFOj.out.below (by repeat' (first | with_reducible exact Below.refl _ _ | with_reducible assumption | with_reducible refine Below.drew ?_ | with_reducible refine Below.drewN ?_ _ | with_reducible refine Below.alloc ?_ ?_ _ | with_reducible refine Below.setCell ?_ ?_ _ | with_reducible refine Below.setRow ?_ ?_ _ | with_reducible refine below_step (by assumption) ?_ ?_ | (show (_ : Nat) ≤ _; first | omega | (simp <;> omega)))) (Nat.le_refl _)) (HMXj.out.below (by repeat' (first | with_reducible exact Below.refl _ _ | with_reducible assumption | with_reducible refine Below.drew ?_ | with_reducible refine Below.drewN ?_ _ | with_reducible refine Below.alloc ?_ ?_ _ | with_reducible refine Below.setCell ?_ ?_ _ | with_reducible refine Below.setRow ?_ ?_ _ | with_reducible refine below_step (by assumption) ?_ ?_ | (show (_ : Nat) ≤ _; first | omega | (simp <;> omega)))))).mono ?_; rintro e wo ⟨vq, rfl, ho, hbwo⟩; rw [hmP] at ho; obtain ⟨aq, cq, rfl⟩ := ho.len; have HQ := Lib.hid ho; clear ho; have r_hbwo := keep_rowA hbwo; have f_hbwo := keep_frA hbwo; have s_hbwo := hbwo.size; (try simp only [World.size_alloc, World.size_setCell, setRow_size, World.size_drew, size_drewNm] at r_hbwo f_hbwo s_hbwo))
  go_wp2_with (go_at_call 16; refine (HROWS.out _ _ _ _ _ (HQ.out.below (by repeat' (first | with_reducible exact Below.refl _ _ | with_reducible assumption | with_reducible refine Below.drew ?_ | with_reducible refine Below.drewN ?_ _ | with_reducible refine Below.alloc ?_ ?_ _ | with_reducible refine Below.setCell ?_ ?_ _ | with_reducible refine Below.setRow ?_ ?_ _ | with_reducible refine below_step (by assumption) ?_ ?_ | (show (_ : Nat) ≤ _; first | omega | (simp <;> omega)))) (Nat.le_refl _)) (HDUj.out.below (by repeat' (first | with_reducible exact Below.refl _ _ | with_reducible assumption | with_reducible refine Below.drew ?_ | with_reducible refine Below.drewN ?_ _ | with_reducible refine Below.alloc ?_ ?_ _ | with_reducible refine Below.setCell ?_ ?_ _ | with_reducible refine Below.setRow ?_ ?_ _ | with_reducible refine below_step (by assumption) ?_ ?_ | (show (_ : Nat) ≤ _; first | omega | (simp <;> omega)))) (Nat.le_refl _))).mono ?_; rintro e wp ⟨rfl, hbwp⟩; have r_hbwp := keep_rowA hbwp; have f_hbwp := keep_frA hbwp; have s_hbwp := hbwp.size; (try simp only [World.size_alloc, World.size_setCell, setRow_size, World.size_drew, size_drewNm] at r_hbwp f_hbwp s_hbwp))
  have HDp := Lib.hid (HDUj.out.below (show Below wj.heap.size wj wp from by repeat' (first | with_reducible exact Below.refl _ _ | with_reducible assumption | with_reducible refine Below.drew ?_ | with_reducible refine Below.drewN ?_ _ | with_reducible refine Below.alloc ?_ ?_ _ | with_reducible refine Below.setCell ?_ ?_ _ | with_reducible refine Below.setRow ?_ ?_ _ | with_reducible refine below_step (by assumption) ?_ ?_ | (show (_ : Nat) ≤ _; first | omega | (simp <;> omega)))) (Nat.le_refl _))
  have HMp := Lib.hid (HMj.out.below (show Below wj.heap.size wj wp from by repeat' (first | with_reducible exact Below.refl _ _ | with_reducible assumption | with_reducible refine Below.drew ?_ | with_reducible refine Below.drewN ?_ _ | with_reducible refine Below.alloc ?_ ?_ _ | with_reducible refine Below.setCell ?_ ?_ _ | with_reducible refine Below.setRow ?_ ?_ _ | with_reducible refine below_step (by assumption) ?_ ?_ | (show (_ : Nat) ≤ _; first | omega | (simp <;> omega)))) (Nat.le_refl _))
  have HTp := Lib.hid (HTj.out.below (show Below wj.heap.size wj wp from by repeat' (first | with_reducible exact Below.refl _ _ | with_reducible assumption | with_reducible refine Below.drew ?_ | with_reducible refine Below.drewN ?_ _ | with_reducible refine Below.alloc ?_ ?_ _ | with_reducible refine Below.setCell ?_ ?_ _ | with_reducible refine Below.setRow ?_ ?_ _ | with_reducible refine below_step (by assumption) ?_ ?_ | (show (_ : Nat) ≤ _; first | omega | (simp <;> omega)))) (Nat.le_refl _))
  have HMXp := Lib.hid (HMXj.out.below (show Below wj.heap.size wj wp from by repeat' (first | with_reducible exact Below.refl _ _ | with_reducible assumption | with_reducible refine Below.drew ?_ | with_reducible refine Below.drewN ?_ _ | with_reducible refine Below.alloc ?_ ?_ _ | with_reducible refine Below.setCell ?_ ?_ _ | with_reducible refine Below.setRow ?_ ?_ _ | with_reducible refine below_step (by assumption) ?_ ?_ | (show (_ : Nat) ≤ _; first | omega | (simp <;> omega)))))
  have HRDp := Lib.hid (HRDj.out.below (show Below wj.heap.size wj wp from by repeat' (first | with_reducible exact Below.refl _ _ | with_reducible assumption | with_reducible refine Below.drew ?_ | with_reducible refine Below.drewN ?_ _ | with_reducible refine Below.alloc ?_ ?_ _ | with_reducible refine Below.setCell ?_ ?_ _ | with_reducible refine Below.setRow ?_ ?_ _ | with_reducible refine below_step (by assumption) ?_ ?_ | (show (_ : Nat) ≤ _; first | omega | (simp <;> omega)))))
  have hshp : rowOf wp wa.heap.size = kc sk 266 c := by (go_simp <;> (intros; omega))
  have hBp : wa.heap.size < wp.heap.size := by first | omega | (simp at *; omega)
  have hbp : Below w.heap.size w wp := by repeat' (first | with_reducible exact Below.refl _ _ | with_reducible assumption | with_reducible refine Below.drew ?_ | with_reducible refine Below.drewN ?_ _ | with_reducible refine Below.alloc ?_ ?_ _ | with_reducible refine Below.setCell ?_ ?_ _ | with_reducible refine Below.setRow ?_ ?_ _ | with_reducible refine below_step (by assumption) ?_ ?_ | (show (_ : Nat) ≤ _; first | omega | (simp <;> omega)))
  clear r_hbwk f_hbwk r_hbwl f_hbwl r_hbwm f_hbwm r_hbwo f_hbwo r_hbwp f_hbwp hbwk hbwl hbwm hbwo hbwp HPIj HDUj HOIj HFOj HMj HTj HMXj HRDj hshj HQ HROWS HVAL hq1 hq2 hN1 hN2
  have hTA : T ∈ m :: L := by rw [← hall]; exact hP0
  go_wp2
  go_loopw [24] (fun zi wr => ∃ i : Nat, i ≤ n ∧ zi = .int .i64 i ∧ Below wp.heap.size wp wr) (fun zi wr => n + 1 - (intOf zi).toNat)
  case atStart => exact ⟨0, by omega, rfl, by repeat' (first | with_reducible exact Below.refl _ _ | with_reducible assumption | with_reducible refine Below.drew ?_ | with_reducible refine Below.drewN ?_ _ | with_reducible refine Below.alloc ?_ ?_ _ | with_reducible refine Below.setCell ?_ ?_ _ | with_reducible refine Below.setRow ?_ ?_ _ | with_reducible refine below_step (by assumption) ?_ ?_ | (show (_ : Nat) ≤ _; first | omega | (simp <;> omega)))⟩
  case round => as_aux_lemma =>
    obtain ⟨i, hi, rfl, hbi⟩ := hrel
    have hszi := hbi.size
    by_cases hlt : i < n
    · obtain ⟨gm, cm', hv, -, hgm, -, hRm, hcm⟩ := HMp.out.1.pos (by omega)
      simp only [Value.slice.injEq] at hv
      obtain ⟨rfl, -, rfl⟩ := hv
      have em1 := hcm i hlt 0 (by omega)
      have em2 := hcm i hlt 1 (by omega)
      rw [← keep_row hbi hgm] at em1 em2
      simp only [mkV] at em1 em2
      rw [Nat.add_zero] at em1
      have hHc := HMp.out.2 i hlt
      have hX := HLAY.out i hlt
      have hrX := HRE.out i hlt
      obtain ⟨X, hXe⟩ : ∃ X, F i = X := ⟨_, rfl⟩
      rw [hXe] at em1 em2 hHc hX hrX
      obtain ⟨ak, ck, hvk⟩ := hHc.len
      have HTX := Lib.hid (fun b w h => text_ok X hX b w h)
      have HRX := Lib.hid (fun w h => read_ok X hX hrX w h)
      have hXn := hX.2.1
      rw [hvk] at em2 hHc HTX
      have HCk := Lib.hid hHc
      have hRw : n * 2 ≤ (rowOf wr gm).size := by rw [keep_row hbi hgm]; exact hRm
      have hgmw : gm < wr.heap.size := by omega
      have hi2 : (i : Int) < (n : Int) := by omega
      have hw1 : IntKind.i64.wrap ((i : Int) + 1) = ((i + 1 : Nat) : Int) := by rw [IntWalk.i64_in _ (by omega)]; rfl
      obtain ⟨Rm, hRme⟩ : ∃ R, rowOf wr gm = R := ⟨_, rfl⟩
      rw [hRme] at em1 em2 hRw
      have hRk : i * 2 + 2 ≤ Rm.size := by omega
      have hee := ext2_of em1 em2
      clear hHc hX hrX hcm hRw hvk
      generalize X.col = xc at *
      go_wp2_with (first | (go_at_call 20; with_reducible refine (HTX.out _ _ (HCk.out.below (by repeat' (first | with_reducible exact Below.refl _ _ | with_reducible assumption | with_reducible refine Below.drew ?_ | with_reducible refine Below.drewN ?_ _ | with_reducible refine Below.alloc ?_ ?_ _ | with_reducible refine Below.setCell ?_ ?_ _ | with_reducible refine Below.setRow ?_ ?_ _ | with_reducible refine below_step (by assumption) ?_ ?_ | (show (_ : Nat) ≤ _; first | omega | (simp <;> omega)))) (Nat.le_refl _))).mono ?_; rintro e w1 ⟨rfl, hb1⟩; have r_hb1 := keep_rowA hb1; have f_hb1 := keep_frA hb1; have s_hb1 := hb1.size; (try simp only [World.size_alloc, World.size_setCell, setRow_size, World.size_drew, size_drewNm] at r_hb1 f_hb1 s_hb1)) | (go_at_call 19; with_reducible refine (HRX.out _ (HRDp.out.below (by repeat' (first | with_reducible exact Below.refl _ _ | with_reducible assumption | with_reducible refine Below.drew ?_ | with_reducible refine Below.drewN ?_ _ | with_reducible refine Below.alloc ?_ ?_ _ | with_reducible refine Below.setCell ?_ ?_ _ | with_reducible refine Below.setRow ?_ ?_ _ | with_reducible refine below_step (by assumption) ?_ ?_ | (show (_ : Nat) ≤ _; first | omega | (simp <;> omega)))))).mono ?_; rintro e w2 ⟨v2, rfl, ho2, hb2⟩; obtain ⟨a2, k2, rfl⟩ := ho2.len; have HR2 := Lib.hid ho2; clear ho2; have r_hb2 := keep_rowA hb2; have f_hb2 := keep_frA hb2; have s_hb2 := hb2.size; (try simp only [World.size_alloc, World.size_setCell, setRow_size, World.size_drew, size_drewNm] at r_hb2 f_hb2 s_hb2)))
      have hw1r := hb2.size
      go_region_held3 (fun w' => rowOf w' gm = Rm ∧ rowOf w' w2.heap.size = #[.int .i8 xc, .slice a2 X.n k2]) (go_simp) ((go_at_call 21; refine (sameSpots_own _ _ X.n _ _ X.f (by omega) _ (HR2.out.below (by repeat' (first | with_reducible exact Below.refl _ _ | with_reducible assumption | with_reducible refine Below.drew ?_ | with_reducible refine Below.drewN ?_ _ | with_reducible refine Below.alloc ?_ ?_ _ | with_reducible refine Below.setCell ?_ ?_ _ | with_reducible refine Below.setRow ?_ ?_ _ | with_reducible refine below_step (by assumption) ?_ ?_ | (show (_ : Nat) ≤ _; first | omega | (simp <;> omega)))) (Nat.le_refl _)) (HCk.out.below (by repeat' (first | with_reducible exact Below.refl _ _ | with_reducible assumption | with_reducible refine Below.drew ?_ | with_reducible refine Below.drewN ?_ _ | with_reducible refine Below.alloc ?_ ?_ _ | with_reducible refine Below.setCell ?_ ?_ _ | with_reducible refine Below.setRow ?_ ?_ _ | with_reducible refine below_step (by assumption) ?_ ?_ | (show (_ : Nat) ≤ _; first | omega | (simp <;> omega)))) (Nat.le_refl _))).mono ?_; rintro e w3 ⟨rfl, hb3⟩; have r_hb3 := keep_rowA hb3; have f_hb3 := keep_frA hb3; have s_hb3 := hb3.size; (try simp only [World.size_alloc, World.size_setCell, setRow_size, World.size_drew, size_drewNm] at r_hb3 f_hb3 s_hb3)))
      all_goals
        go_wp2
        go_loopw [27] (fun zk wy => ∃ k : Nat, k ≤ n ∧ zk = .int .i64 k ∧ Below wp.heap.size wp wy) (fun zk wy => n + 1 - (intOf zk).toNat)
        case atStart => exact ⟨0, by omega, rfl, by repeat' (first | with_reducible exact Below.refl _ _ | with_reducible assumption | with_reducible refine Below.drew ?_ | with_reducible refine Below.drewN ?_ _ | with_reducible refine Below.alloc ?_ ?_ _ | with_reducible refine Below.setCell ?_ ?_ _ | with_reducible refine Below.setRow ?_ ?_ _ | with_reducible refine below_step (by assumption) ?_ ?_ | (show (_ : Nat) ≤ _; first | omega | (simp <;> omega)))⟩
        case round => as_aux_lemma =>
          obtain ⟨k, hk, rfl, hbk⟩ := hrel
          have hszk := hbk.size
          clear r_hb1 f_hb1 r_hb2 f_hb2 r_hb3 f_hb3 hb1 hb2 hb3
          by_cases hltk : k < n
          · have hk2 : (k : Int) < (n : Int) := by omega
            have hwk : IntKind.i64.wrap ((k : Int) + 1) = ((k + 1 : Nat) : Int) := by rw [IntWalk.i64_in _ (by omega)]; rfl
            have hshk : rowOf wr wa.heap.size = kc sk 266 c := (keep_row hbk hBp).trans hshp
            have hBk : wa.heap.size < wr.heap.size := by omega
            by_cases hik : i = k
            · subst hik
              go_wp2
              go_roundw
              case rel => first | exact ⟨i + 1, by omega, by go_num, by repeat' (first | with_reducible exact Below.refl _ _ | with_reducible assumption | with_reducible refine Below.drew ?_ | with_reducible refine Below.drewN ?_ _ | with_reducible refine Below.alloc ?_ ?_ _ | with_reducible refine Below.setCell ?_ ?_ _ | with_reducible refine Below.setRow ?_ ?_ _ | with_reducible refine below_step (by assumption) ?_ ?_ | (show (_ : Nat) ≤ _; first | omega | (simp <;> omega)))⟩ | ((repeat (with_reducible apply Exists.intro)); refine And.intro ?_ ?_; rotate_left; (focus ((repeat' (with_reducible apply And.intro)) <;> rfl)); exact ⟨i + 1, by omega, by go_num, by repeat' (first | with_reducible exact Below.refl _ _ | with_reducible assumption | with_reducible refine Below.drew ?_ | with_reducible refine Below.drewN ?_ _ | with_reducible refine Below.alloc ?_ ?_ _ | with_reducible refine Below.setCell ?_ ?_ _ | with_reducible refine Below.setRow ?_ ?_ _ | with_reducible refine below_step (by assumption) ?_ ?_ | (show (_ : Nat) ≤ _; first | omega | (simp <;> omega)))⟩)
              case measure => simp [intOf]; omega
            have hik1 : ((i : Int) == (k : Int)) = false := by rw [beq_eq_false_iff_ne]; omega
            have hik2 : ¬ (i : Int) = (k : Int) := by omega
            have HSI0 := fun v b pv bp w h hpv hmx => iSurely_ok c hfc v n b F hn6 HFI.out hvm pv bp P hPl m L hall i k hlt hltk hik w h hpv hmx
            have HSS0 := fun v b pv bp w h hpv => sSurely_ok c hfc v n b F hn6 HFI.out hvm pv bp P hPl m L hall i k hlt hltk hik w h hpv
            have hsu0 := fun (h : suB (m :: L) i k = true) => su_turn hTA h
            rcases Bool.eq_false_or_eq_true (suB (m :: L) i k) with hsu | hsu
            case inr =>
              rw [hsu] at HSI0 HSS0
              have HSI := Lib.hid HSI0
              have HSS := Lib.hid HSS0
              clear HSI0 HSS0 hsu hsu0
              go_wp2_with (first | (go_at_call 22; refine (HSI.out _ _ _ _ _ (HMp.out.below (by repeat' (first | with_reducible exact Below.refl _ _ | with_reducible assumption | with_reducible refine Below.drew ?_ | with_reducible refine Below.drewN ?_ _ | with_reducible refine Below.alloc ?_ ?_ _ | with_reducible refine Below.setCell ?_ ?_ _ | with_reducible refine Below.setRow ?_ ?_ _ | with_reducible refine below_step (by assumption) ?_ ?_ | (show (_ : Nat) ≤ _; first | omega | (simp <;> omega)))) (Nat.le_refl _)) (HDp.out.below (by repeat' (first | with_reducible exact Below.refl _ _ | with_reducible assumption | with_reducible refine Below.drew ?_ | with_reducible refine Below.drewN ?_ _ | with_reducible refine Below.alloc ?_ ?_ _ | with_reducible refine Below.setCell ?_ ?_ _ | with_reducible refine Below.setRow ?_ ?_ _ | with_reducible refine below_step (by assumption) ?_ ?_ | (show (_ : Nat) ≤ _; first | omega | (simp <;> omega)))) (Nat.le_refl _)) (HMXp.out.below (by repeat' (first | with_reducible exact Below.refl _ _ | with_reducible assumption | with_reducible refine Below.drew ?_ | with_reducible refine Below.drewN ?_ _ | with_reducible refine Below.alloc ?_ ?_ _ | with_reducible refine Below.setCell ?_ ?_ _ | with_reducible refine Below.setRow ?_ ?_ _ | with_reducible refine below_step (by assumption) ?_ ?_ | (show (_ : Nat) ≤ _; first | omega | (simp <;> omega)))))).mono ?_; rintro e w4 ⟨rfl, hb4⟩; have r_hb4 := keep_rowA hb4; have f_hb4 := keep_frA hb4; have s_hb4 := hb4.size; (try simp only [World.size_alloc, World.size_setCell, setRow_size, World.size_drew, size_drewNm] at r_hb4 f_hb4 s_hb4)) | (go_at_call 23; refine (HSS.out _ _ _ _ _ (HMp.out.below (by repeat' (first | with_reducible exact Below.refl _ _ | with_reducible assumption | with_reducible refine Below.drew ?_ | with_reducible refine Below.drewN ?_ _ | with_reducible refine Below.alloc ?_ ?_ _ | with_reducible refine Below.setCell ?_ ?_ _ | with_reducible refine Below.setRow ?_ ?_ _ | with_reducible refine below_step (by assumption) ?_ ?_ | (show (_ : Nat) ≤ _; first | omega | (simp <;> omega)))) (Nat.le_refl _)) (HDp.out.below (by repeat' (first | with_reducible exact Below.refl _ _ | with_reducible assumption | with_reducible refine Below.drew ?_ | with_reducible refine Below.drewN ?_ _ | with_reducible refine Below.alloc ?_ ?_ _ | with_reducible refine Below.setCell ?_ ?_ _ | with_reducible refine Below.setRow ?_ ?_ _ | with_reducible refine below_step (by assumption) ?_ ?_ | (show (_ : Nat) ≤ _; first | omega | (simp <;> omega)))) (Nat.le_refl _))).mono ?_; rintro e w5 ⟨rfl, hb5⟩; have r_hb5 := keep_rowA hb5; have f_hb5 := keep_frA hb5; have s_hb5 := hb5.size; (try simp only [World.size_alloc, World.size_setCell, setRow_size, World.size_drew, size_drewNm] at r_hb5 f_hb5 s_hb5)))
              go_roundw
              case rel => first | exact ⟨k + 1, by omega, by go_num, by repeat' (first | with_reducible exact Below.refl _ _ | with_reducible assumption | with_reducible refine Below.drew ?_ | with_reducible refine Below.drewN ?_ _ | with_reducible refine Below.alloc ?_ ?_ _ | with_reducible refine Below.setCell ?_ ?_ _ | with_reducible refine Below.setRow ?_ ?_ _ | with_reducible refine below_step (by assumption) ?_ ?_ | (show (_ : Nat) ≤ _; first | omega | (simp <;> omega)))⟩ | ((repeat (with_reducible apply Exists.intro)); refine And.intro ?_ ?_; rotate_left; (focus ((repeat' (with_reducible apply And.intro)) <;> rfl)); exact ⟨k + 1, by omega, by go_num, by repeat' (first | with_reducible exact Below.refl _ _ | with_reducible assumption | with_reducible refine Below.drew ?_ | with_reducible refine Below.drewN ?_ _ | with_reducible refine Below.alloc ?_ ?_ _ | with_reducible refine Below.setCell ?_ ?_ _ | with_reducible refine Below.setRow ?_ ?_ _ | with_reducible refine below_step (by assumption) ?_ ?_ | (show (_ : Nat) ≤ _; first | omega | (simp <;> omega)))⟩)
              case measure => simp [intOf]; omega
            have hle := hsu0 hsu
            rw [hsu] at HSI0 HSS0
            have HSI := Lib.hid HSI0
            have HSS := Lib.hid HSS0
            clear HSI0 HSS0 hsu hsu0
            go_wp2_with (first | (go_at_call 22; refine (HSI.out _ _ _ _ _ (HMp.out.below (by repeat' (first | with_reducible exact Below.refl _ _ | with_reducible assumption | with_reducible refine Below.drew ?_ | with_reducible refine Below.drewN ?_ _ | with_reducible refine Below.alloc ?_ ?_ _ | with_reducible refine Below.setCell ?_ ?_ _ | with_reducible refine Below.setRow ?_ ?_ _ | with_reducible refine below_step (by assumption) ?_ ?_ | (show (_ : Nat) ≤ _; first | omega | (simp <;> omega)))) (Nat.le_refl _)) (HDp.out.below (by repeat' (first | with_reducible exact Below.refl _ _ | with_reducible assumption | with_reducible refine Below.drew ?_ | with_reducible refine Below.drewN ?_ _ | with_reducible refine Below.alloc ?_ ?_ _ | with_reducible refine Below.setCell ?_ ?_ _ | with_reducible refine Below.setRow ?_ ?_ _ | with_reducible refine below_step (by assumption) ?_ ?_ | (show (_ : Nat) ≤ _; first | omega | (simp <;> omega)))) (Nat.le_refl _)) (HMXp.out.below (by repeat' (first | with_reducible exact Below.refl _ _ | with_reducible assumption | with_reducible refine Below.drew ?_ | with_reducible refine Below.drewN ?_ _ | with_reducible refine Below.alloc ?_ ?_ _ | with_reducible refine Below.setCell ?_ ?_ _ | with_reducible refine Below.setRow ?_ ?_ _ | with_reducible refine below_step (by assumption) ?_ ?_ | (show (_ : Nat) ≤ _; first | omega | (simp <;> omega)))))).mono ?_; rintro e w4 ⟨rfl, hb4⟩; have r_hb4 := keep_rowA hb4; have f_hb4 := keep_frA hb4; have s_hb4 := hb4.size; (try simp only [World.size_alloc, World.size_setCell, setRow_size, World.size_drew, size_drewNm] at r_hb4 f_hb4 s_hb4)) | (go_at_call 23; refine (HSS.out _ _ _ _ _ (HMp.out.below (by repeat' (first | with_reducible exact Below.refl _ _ | with_reducible assumption | with_reducible refine Below.drew ?_ | with_reducible refine Below.drewN ?_ _ | with_reducible refine Below.alloc ?_ ?_ _ | with_reducible refine Below.setCell ?_ ?_ _ | with_reducible refine Below.setRow ?_ ?_ _ | with_reducible refine below_step (by assumption) ?_ ?_ | (show (_ : Nat) ≤ _; first | omega | (simp <;> omega)))) (Nat.le_refl _)) (HDp.out.below (by repeat' (first | with_reducible exact Below.refl _ _ | with_reducible assumption | with_reducible refine Below.drew ?_ | with_reducible refine Below.drewN ?_ _ | with_reducible refine Below.alloc ?_ ?_ _ | with_reducible refine Below.setCell ?_ ?_ _ | with_reducible refine Below.setRow ?_ ?_ _ | with_reducible refine below_step (by assumption) ?_ ?_ | (show (_ : Nat) ≤ _; first | omega | (simp <;> omega)))) (Nat.le_refl _))).mono ?_; rintro e w5 ⟨rfl, hb5⟩; have r_hb5 := keep_rowA hb5; have f_hb5 := keep_frA hb5; have s_hb5 := hb5.size; (try simp only [World.size_alloc, World.size_setCell, setRow_size, World.size_drew, size_drewNm] at r_hb5 f_hb5 s_hb5)))
            go_loopw [34, 32, 33] (fun zp zx zy wz => ∃ (p : Nat) (x y : Int), p ≤ n ∧ zp = .int .i64 p ∧ zx = .int .i64 x ∧ zy = .int .i64 y ∧ Lst T i p x ∧ Lst T k p y ∧ Below wp.heap.size wp wz) (fun zp zx zy wz => n + 1 - (intOf zp).toNat)
            case atStart => exact ⟨0, -1, -1, by omega, rfl, rfl, rfl, lst_start _ _, lst_start _ _, by repeat' (first | with_reducible exact Below.refl _ _ | with_reducible assumption | with_reducible refine Below.drew ?_ | with_reducible refine Below.drewN ?_ _ | with_reducible refine Below.alloc ?_ ?_ _ | with_reducible refine Below.setCell ?_ ?_ _ | with_reducible refine Below.setRow ?_ ?_ _ | with_reducible refine below_step (by assumption) ?_ ?_ | (show (_ : Nat) ≤ _; first | omega | (simp <;> omega)))⟩
            case round => as_aux_lemma =>
              obtain ⟨p, x, y, hp, rfl, rfl, rfl, hx, hy, hbz⟩ := hrel
              have HLX := Lib.hid hx
              have HLY := Lib.hid hy
              have hszz := hbz.size
              clear hx hy r_hb4 f_hb4 r_hb5 f_hb5 hb4 hb5
              by_cases hltp : p < n
              · obtain ⟨gT, cT, hvT, -, hgT, -, -, hcT⟩ := HTp.out.pos (by omega)
                simp only [Value.slice.injEq, Option.some.injEq, Addr.mk.injEq] at hvT
                obtain ⟨⟨rfl, -, -⟩, -, rfl⟩ := hvT
                obtain ⟨a, ha⟩ : ∃ a, T[p]? = some a := ⟨_, List.getElem?_eq_getElem (by omega)⟩
                have eT := hcT p (by omega)
                rw [nl_at ha, ← keep_row hbz hgT] at eT
                have hgTw : gt < wr.heap.size := by omega
                have hp2 : (p : Int) < (n : Int) := by omega
                have hwp : IntKind.i64.wrap ((p : Int) + 1) = ((p + 1 : Nat) : Int) := by rw [IntWalk.i64_in _ (by omega)]; rfl
                have HAT := Lib.hid ha
                clear hcT ha
                by_cases hai : a = i
                · subst hai
                  go_wp2
                  go_roundw
                  case rel => first | exact ⟨p + 1, (p : Int), y, by omega, by go_num, rfl, rfl, lst_hit HAT.out, lst_miss HLY.out HAT.out hik, by repeat' (first | with_reducible exact Below.refl _ _ | with_reducible assumption | with_reducible refine Below.drew ?_ | with_reducible refine Below.drewN ?_ _ | with_reducible refine Below.alloc ?_ ?_ _ | with_reducible refine Below.setCell ?_ ?_ _ | with_reducible refine Below.setRow ?_ ?_ _ | with_reducible refine below_step (by assumption) ?_ ?_ | (show (_ : Nat) ≤ _; first | omega | (simp <;> omega)))⟩ | ((repeat (with_reducible apply Exists.intro)); refine And.intro ?_ ?_; rotate_left; (focus ((repeat' (with_reducible apply And.intro)) <;> rfl)); exact ⟨p + 1, (p : Int), y, by omega, by go_num, rfl, rfl, lst_hit HAT.out, lst_miss HLY.out HAT.out hik, by repeat' (first | with_reducible exact Below.refl _ _ | with_reducible assumption | with_reducible refine Below.drew ?_ | with_reducible refine Below.drewN ?_ _ | with_reducible refine Below.alloc ?_ ?_ _ | with_reducible refine Below.setCell ?_ ?_ _ | with_reducible refine Below.setRow ?_ ?_ _ | with_reducible refine below_step (by assumption) ?_ ?_ | (show (_ : Nat) ≤ _; first | omega | (simp <;> omega)))⟩)
                  case measure => simp [intOf]; omega
                by_cases hak : a = k
                · subst hak
                  have q1 : ((a : Int) == (i : Int)) = false := by rw [beq_eq_false_iff_ne]; omega
                  have q2 : ¬ (a : Int) = (i : Int) := by omega
                  go_wp2
                  go_roundw
                  case rel => first | exact ⟨p + 1, x, (p : Int), by omega, by go_num, rfl, rfl, lst_miss HLX.out HAT.out hai, lst_hit HAT.out, by repeat' (first | with_reducible exact Below.refl _ _ | with_reducible assumption | with_reducible refine Below.drew ?_ | with_reducible refine Below.drewN ?_ _ | with_reducible refine Below.alloc ?_ ?_ _ | with_reducible refine Below.setCell ?_ ?_ _ | with_reducible refine Below.setRow ?_ ?_ _ | with_reducible refine below_step (by assumption) ?_ ?_ | (show (_ : Nat) ≤ _; first | omega | (simp <;> omega)))⟩ | ((repeat (with_reducible apply Exists.intro)); refine And.intro ?_ ?_; rotate_left; (focus ((repeat' (with_reducible apply And.intro)) <;> rfl)); exact ⟨p + 1, x, (p : Int), by omega, by go_num, rfl, rfl, lst_miss HLX.out HAT.out hai, lst_hit HAT.out, by repeat' (first | with_reducible exact Below.refl _ _ | with_reducible assumption | with_reducible refine Below.drew ?_ | with_reducible refine Below.drewN ?_ _ | with_reducible refine Below.alloc ?_ ?_ _ | with_reducible refine Below.setCell ?_ ?_ _ | with_reducible refine Below.setRow ?_ ?_ _ | with_reducible refine below_step (by assumption) ?_ ?_ | (show (_ : Nat) ≤ _; first | omega | (simp <;> omega)))⟩)
                  case measure => simp [intOf]; omega
                have q1 : ((a : Int) == (i : Int)) = false := by rw [beq_eq_false_iff_ne]; omega
                have q2 : ¬ (a : Int) = (i : Int) := by omega
                have q3 : ((a : Int) == (k : Int)) = false := by rw [beq_eq_false_iff_ne]; omega
                have q4 : ¬ (a : Int) = (k : Int) := by omega
                go_wp2
                go_roundw
                case rel => first | exact ⟨p + 1, x, y, by omega, by go_num, rfl, rfl, lst_miss HLX.out HAT.out hai, lst_miss HLY.out HAT.out hak, by repeat' (first | with_reducible exact Below.refl _ _ | with_reducible assumption | with_reducible refine Below.drew ?_ | with_reducible refine Below.drewN ?_ _ | with_reducible refine Below.alloc ?_ ?_ _ | with_reducible refine Below.setCell ?_ ?_ _ | with_reducible refine Below.setRow ?_ ?_ _ | with_reducible refine below_step (by assumption) ?_ ?_ | (show (_ : Nat) ≤ _; first | omega | (simp <;> omega)))⟩ | ((repeat (with_reducible apply Exists.intro)); refine And.intro ?_ ?_; rotate_left; (focus ((repeat' (with_reducible apply And.intro)) <;> rfl)); exact ⟨p + 1, x, y, by omega, by go_num, rfl, rfl, lst_miss HLX.out HAT.out hai, lst_miss HLY.out HAT.out hak, by repeat' (first | with_reducible exact Below.refl _ _ | with_reducible assumption | with_reducible refine Below.drew ?_ | with_reducible refine Below.drewN ?_ _ | with_reducible refine Below.alloc ?_ ?_ _ | with_reducible refine Below.setCell ?_ ?_ _ | with_reducible refine Below.setRow ?_ ?_ _ | with_reducible refine below_step (by assumption) ?_ ?_ | (show (_ : Nat) ≤ _; first | omega | (simp <;> omega)))⟩)
                case measure => simp [intOf]; omega
              · have hpe : p = n := by omega
                have ex := lst_end hTn hTl (hTm i hlt) (hpe ▸ HLX.out)
                have ey := lst_end hTn hTl (hTm k hltk) (hpe ▸ HLY.out)
                have hxy : ¬ y < x := by omega
                have hxy2 : decide (y < x) = false := decide_eq_false hxy
                have hpn : ¬ (p : Int) < (n : Int) := by omega
                clear ex ey
                go_wp2
                go_roundw
                case rel => first | exact ⟨k + 1, by omega, by go_num, by repeat' (first | with_reducible exact Below.refl _ _ | with_reducible assumption | with_reducible refine Below.drew ?_ | with_reducible refine Below.drewN ?_ _ | with_reducible refine Below.alloc ?_ ?_ _ | with_reducible refine Below.setCell ?_ ?_ _ | with_reducible refine Below.setRow ?_ ?_ _ | with_reducible refine below_step (by assumption) ?_ ?_ | (show (_ : Nat) ≤ _; first | omega | (simp <;> omega)))⟩ | ((repeat (with_reducible apply Exists.intro)); refine And.intro ?_ ?_; rotate_left; (focus ((repeat' (with_reducible apply And.intro)) <;> rfl)); exact ⟨k + 1, by omega, by go_num, by repeat' (first | with_reducible exact Below.refl _ _ | with_reducible assumption | with_reducible refine Below.drew ?_ | with_reducible refine Below.drewN ?_ _ | with_reducible refine Below.alloc ?_ ?_ _ | with_reducible refine Below.setCell ?_ ?_ _ | with_reducible refine Below.setRow ?_ ?_ _ | with_reducible refine below_step (by assumption) ?_ ?_ | (show (_ : Nat) ≤ _; first | omega | (simp <;> omega)))⟩)
                case measure => simp [intOf]; omega
          · have hke : k = n := by omega
            have hkn : ¬ (k : Int) < (n : Int) := by omega
            go_wp2
            go_roundw
            case rel => first | exact ⟨i + 1, by omega, by go_num, by repeat' (first | with_reducible exact Below.refl _ _ | with_reducible assumption | with_reducible refine Below.drew ?_ | with_reducible refine Below.drewN ?_ _ | with_reducible refine Below.alloc ?_ ?_ _ | with_reducible refine Below.setCell ?_ ?_ _ | with_reducible refine Below.setRow ?_ ?_ _ | with_reducible refine below_step (by assumption) ?_ ?_ | (show (_ : Nat) ≤ _; first | omega | (simp <;> omega)))⟩ | ((repeat (with_reducible apply Exists.intro)); refine And.intro ?_ ?_; rotate_left; (focus ((repeat' (with_reducible apply And.intro)) <;> rfl)); exact ⟨i + 1, by omega, by go_num, by repeat' (first | with_reducible exact Below.refl _ _ | with_reducible assumption | with_reducible refine Below.drew ?_ | with_reducible refine Below.drewN ?_ _ | with_reducible refine Below.alloc ?_ ?_ _ | with_reducible refine Below.setCell ?_ ?_ _ | with_reducible refine Below.setRow ?_ ?_ _ | with_reducible refine below_step (by assumption) ?_ ?_ | (show (_ : Nat) ≤ _; first | omega | (simp <;> omega)))⟩)
            case measure => simp [intOf]; omega
    · as_aux_lemma =>
      have hie : i = n := by omega
      subst hie
      have hPHH : P.length = H := by omega
      have HPH := Lib.hid hPHH
      have hgH : ∀ y, y < H → ∃ row, P[y]? = some row ∧ row.length = W ∧ ∀ x, x < W → row[x]? = some (chP c (pntG F T) x y) := fun y hy => by
        obtain ⟨row, q1, q2, -⟩ := HPA.out y 0 hy (by omega)
        refine ⟨row, q1, q2, fun x hx => ?_⟩
        obtain ⟨row2, q3, -, q4⟩ := HPA.out y x hy hx
        rw [q1] at q3
        rw [Option.some.inj q3]
        exact q4
      have HGH := Lib.hid hgH
      clear hPHH hgH HPA
      go_wp2
      go_loopw [35] (fun zy wy => ∃ y : Nat, y ≤ H ∧ zy = .int .i64 y ∧ Below wp.heap.size wp wy) (fun zy wy => H + 1 - (intOf zy).toNat)
      case atStart => exact ⟨0, by omega, rfl, by repeat' (first | with_reducible exact Below.refl _ _ | with_reducible assumption | with_reducible refine Below.drew ?_ | with_reducible refine Below.drewN ?_ _ | with_reducible refine Below.alloc ?_ ?_ _ | with_reducible refine Below.setCell ?_ ?_ _ | with_reducible refine Below.setRow ?_ ?_ _ | with_reducible refine below_step (by assumption) ?_ ?_ | (show (_ : Nat) ≤ _; first | omega | (simp <;> omega)))⟩
      case round => as_aux_lemma =>
        obtain ⟨y, hy, rfl, hby⟩ := hrel
        have hszy := hby.size
        by_cases hly : y < H
        · obtain ⟨row, hrow, hrl, hrx⟩ := HGH.out y hly
          have HRX := Lib.hid hrx
          have HRL := Lib.hid hrl
          have hly2 : y < P.length := by rw [HPH.out]; exact hly
          obtain ⟨gd, cd', hv, hgd, hsd, hcd⟩ := OwnT.at HDp.out (by omega)
          simp only [Value.slice.injEq] at hv
          obtain ⟨rfl, -, rfl⟩ := hv
          have ed := hcd y row hrow
          have hly3 : (y : Int) < (P.length : Int) := by omega
          have hw1 : IntKind.i64.wrap ((y : Int) + 1) = ((y + 1 : Nat) : Int) := by rw [IntWalk.i64_in _ (by omega)]; rfl
          have hy8 : y < 8 := by omega
          have hwy : IntKind.i8.wrap (y : Int) = (y : Int) := by simp only [IntKind.wrap, IntKind.bits, IntKind.signed]; simp; omega
          have HED := Lib.hid ed
          clear hrx hrl hcd ed hrow
          go_wp2
          go_loopw [36] (fun zx wx => ∃ x : Nat, x ≤ W ∧ zx = .int .i64 x ∧ Below wp.heap.size wp wx) (fun zx wx => W + 1 - (intOf zx).toNat)
          case atStart => exact ⟨0, by omega, rfl, by repeat' (first | with_reducible exact Below.refl _ _ | with_reducible assumption | with_reducible refine Below.drew ?_ | with_reducible refine Below.drewN ?_ _ | with_reducible refine Below.alloc ?_ ?_ _ | with_reducible refine Below.setCell ?_ ?_ _ | with_reducible refine Below.setRow ?_ ?_ _ | with_reducible refine below_step (by assumption) ?_ ?_ | (show (_ : Nat) ≤ _; first | omega | (simp <;> omega)))⟩
          case round => as_aux_lemma =>
            obtain ⟨x, hx, rfl, hbx⟩ := hrel
            have hszx := hbx.size
            have ed := HED.out
            rw [← keep_row hbx hgd] at ed
            have hgdw : gd < wr.heap.size := by omega
            by_cases hlx : x < W
            · have hrx2 : (x : Int) < (row.length : Int) := by rw [HRL.out]; omega
              have hx8 : x < 8 := by omega
              have hwx : IntKind.i8.wrap (x : Int) = (x : Int) := by simp only [IntKind.wrap, IntKind.bits, IntKind.signed]; simp; omega
              have hw2 : IntKind.i64.wrap ((x : Int) + 1) = ((x + 1 : Nat) : Int) := by rw [IntWalk.i64_in _ (by omega)]; rfl
              obtain ⟨wo, hwo⟩ : ∃ wo : World, wo = wr := ⟨_, rfl⟩
              have HXR := Lib.hid (HRX.out x hlx)
              obtain ⟨sb, hsb⟩ : ∃ sb, wr.heap.size = sb := ⟨_, rfl⟩
              go_wp2
              go_loopw [39, 38] (fun zp zl wq => ∃ p : Nat, p ≤ i ∧ zp = .int .i64 p ∧ zl = .int .u8 (((shP (pntG F (T.take p) (y * 8 + x))).toNat : Nat) : Int) ∧ Below wp.heap.size wp wq ∧ wr.heap.size + 1 ≤ wq.heap.size ∧ rowOf wq wr.heap.size = #[.int .i8 (x : Int), .int .i8 (y : Int)]) (fun zp zl wq => i + 1 - (intOf zp).toNat)
              case atStart => exact ⟨0, by omega, rfl, rfl, by repeat' (first | with_reducible exact Below.refl _ _ | with_reducible assumption | with_reducible refine Below.drew ?_ | with_reducible refine Below.drewN ?_ _ | with_reducible refine Below.alloc ?_ ?_ _ | with_reducible refine Below.setCell ?_ ?_ _ | with_reducible refine Below.setRow ?_ ?_ _ | with_reducible refine below_step (by assumption) ?_ ?_ | (show (_ : Nat) ≤ _; first | omega | (simp <;> omega))), by simp, by (go_simp <;> (intros; omega))⟩
              case round => as_aux_lemma =>
                obtain ⟨p, hp, rfl, rfl, hbq, hszq, hrs⟩ := hrel
                rw [hsb] at hszq hrs
                have hszq2 := hbq.size
                by_cases hlp : p < i
                · obtain ⟨a, ha⟩ : ∃ a, T[p]? = some a := ⟨_, List.getElem?_eq_getElem (by omega)⟩
                  have hai : a < i := hTi a (List.mem_of_getElem? ha)
                  obtain ⟨gT, cT, hvT, -, hgT, -, -, hcT⟩ := HTp.out.pos (by omega)
                  simp only [Value.slice.injEq, Option.some.injEq, Addr.mk.injEq] at hvT
                  obtain ⟨⟨rfl, -, -⟩, -, rfl⟩ := hvT
                  have eT := hcT p (by omega)
                  rw [nl_at ha, ← keep_row hbq hgT] at eT
                  obtain ⟨gm, cm', hv, -, hgm, -, hRm, hcm⟩ := HMp.out.1.pos (by omega)
                  simp only [Value.slice.injEq] at hv
                  obtain ⟨rfl, -, rfl⟩ := hv
                  have em1 := hcm a hai 0 (by omega)
                  have em2 := hcm a hai 1 (by omega)
                  have hRw : i * 2 ≤ (rowOf wr gm).size := by rw [keep_row hbq hgm]; exact hRm
                  rw [← keep_row hbq hgm] at em1 em2
                  simp only [mkV] at em1 em2
                  rw [Nat.add_zero] at em1
                  have hHc := HMp.out.2 a hai
                  have hX := HLAY.out a hai
                  have hPG : pntG F (T.take (p + 1)) = coverK (F a) (F a).n (pntG F (T.take p)) := by rw [take_snoc ha, pntG_snoc]
                  obtain ⟨Xm, hXe⟩ : ∃ X, F a = X := ⟨_, rfl⟩
                  rw [hXe] at em1 em2 hHc hX hPG
                  obtain ⟨ak, ck, hvk⟩ := hHc.len
                  rw [hvk] at em2 hHc
                  have HCk := Lib.hid hHc
                  have HSP0 := fun v b w h => A2HasSpot_any v Xm.n b Xm.f hX.2.1 hX.2.2 x y hx8 hy8 w h
                  have hc02 := hX.1
                  have hgTw : gt < wr.heap.size := by omega
                  have hgmw : gm < wr.heap.size := by omega
                  have hsbw : sb < wr.heap.size := by omega
                  have hp2 : (p : Int) < (i : Int) := by omega
                  have ha2 : (a : Int) < (i : Int) := by omega
                  have hwp : IntKind.i64.wrap ((p : Int) + 1) = ((p + 1 : Nat) : Int) := by rw [IntWalk.i64_in _ (by omega)]; rfl
                  obtain ⟨Rm, hRme⟩ : ∃ R, rowOf wr gm = R := ⟨_, rfl⟩
                  obtain ⟨RT, hRTe⟩ : ∃ R, rowOf wr gt = R := ⟨_, rfl⟩
                  rw [hRme] at em1 em2 hRw
                  rw [hRTe] at eT
                  have hRk : a * 2 + 2 ≤ Rm.size := by omega
                  clear hcT hcm hHc hX hvk ha
                  obtain ⟨gq, hgq⟩ : ∃ gq, pntG F (T.take p) (y * 8 + x) = gq := ⟨_, rfl⟩
                  rcases Bool.eq_false_or_eq_true (snB Xm.f Xm.n (y * 8 + x)) with hsn | hsn
                  case inr =>
                    have HL := Lib.hid (show pntG F (T.take (p + 1)) (y * 8 + x) = gq by rw [hPG]; unfold coverK; rw [hsn, if_neg (by decide)]; exact hgq)
                    rw [hsn] at HSP0
                    have HSP := Lib.hid HSP0
                    clear HSP0 hsn hPG
                    rw [hgq]
                    go_wp2
                    go_region_held3 (fun w' => rowOf w' gt = RT ∧ rowOf w' gm = Rm ∧ rowOf w' sb = #[.int .i8 (x : Int), .int .i8 (y : Int)]) (go_simp) ((go_at_call 24; refine (HSP.out _ _ _ (HCk.out.below (by repeat' (first | with_reducible exact Below.refl _ _ | with_reducible assumption | with_reducible refine Below.drew ?_ | with_reducible refine Below.drewN ?_ _ | with_reducible refine Below.alloc ?_ ?_ _ | with_reducible refine Below.setCell ?_ ?_ _ | with_reducible refine Below.setRow ?_ ?_ _ | with_reducible refine below_step (by assumption) ?_ ?_ | (show (_ : Nat) ≤ _; first | omega | (simp <;> omega)))) (Nat.le_refl _))).mono ?_; rintro e w6 ⟨rfl, hb6⟩; have r_hb6 := keep_rowA hb6; have f_hb6 := keep_frA hb6; have s_hb6 := hb6.size; (try simp only [World.size_alloc, World.size_setCell, setRow_size, World.size_drew, size_drewNm] at r_hb6 f_hb6 s_hb6)))
                    all_goals
                      go_wp2
                      go_roundw
                      case rel => exact ⟨p + 1, by omega, by go_num, by rw [HL.out], by repeat' (first | with_reducible exact Below.refl _ _ | with_reducible assumption | with_reducible refine Below.drew ?_ | with_reducible refine Below.drewN ?_ _ | with_reducible refine Below.alloc ?_ ?_ _ | with_reducible refine Below.setCell ?_ ?_ _ | with_reducible refine Below.setRow ?_ ?_ _ | with_reducible refine below_step (by assumption) ?_ ?_ | (show (_ : Nat) ≤ _; first | omega | (simp <;> omega))), by rw [hsb]; first | omega | (simp <;> omega), by rw [hsb]; (go_simp <;> (intros; omega))⟩
                      case measure => simp [intOf]; omega
                  case inl =>
                    have hL0 : pntG F (T.take (p + 1)) (y * 8 + x) = Xm.col + 1 := by rw [hPG]; unfold coverK; rw [hsn, if_pos rfl]
                    rw [hsn] at HSP0
                    have HSP := Lib.hid HSP0
                    clear HSP0 hsn hPG
                    rw [hgq]
                    obtain ⟨xc, hxc⟩ : ∃ xc, Xm.col = xc := ⟨_, rfl⟩
                    rw [hxc] at em1 hc02 hL0
                    have HL := Lib.hid hL0
                    clear hL0 hxc
                    have h3 : xc = 0 ∨ xc = 1 ∨ xc = 2 := by omega
                    rcases h3 with rfl | rfl | rfl
                    all_goals
                      go_wp2
                      go_region_held3 (fun w' => rowOf w' gt = RT ∧ rowOf w' gm = Rm ∧ rowOf w' sb = #[.int .i8 (x : Int), .int .i8 (y : Int)]) (go_simp) ((go_at_call 24; refine (HSP.out _ _ _ (HCk.out.below (by repeat' (first | with_reducible exact Below.refl _ _ | with_reducible assumption | with_reducible refine Below.drew ?_ | with_reducible refine Below.drewN ?_ _ | with_reducible refine Below.alloc ?_ ?_ _ | with_reducible refine Below.setCell ?_ ?_ _ | with_reducible refine Below.setRow ?_ ?_ _ | with_reducible refine below_step (by assumption) ?_ ?_ | (show (_ : Nat) ≤ _; first | omega | (simp <;> omega)))) (Nat.le_refl _))).mono ?_; rintro e w6 ⟨rfl, hb6⟩; have r_hb6 := keep_rowA hb6; have f_hb6 := keep_frA hb6; have s_hb6 := hb6.size; (try simp only [World.size_alloc, World.size_setCell, setRow_size, World.size_drew, size_drewNm] at r_hb6 f_hb6 s_hb6)))
                      all_goals
                        go_wp2
                        go_roundw
                        case rel => exact ⟨p + 1, by omega, by go_num, by rw [HL.out]; rfl, by repeat' (first | with_reducible exact Below.refl _ _ | with_reducible assumption | with_reducible refine Below.drew ?_ | with_reducible refine Below.drewN ?_ _ | with_reducible refine Below.alloc ?_ ?_ _ | with_reducible refine Below.setCell ?_ ?_ _ | with_reducible refine Below.setRow ?_ ?_ _ | with_reducible refine below_step (by assumption) ?_ ?_ | (show (_ : Nat) ≤ _; first | omega | (simp <;> omega))), by rw [hsb]; first | omega | (simp <;> omega), by rw [hsb]; (go_simp <;> (intros; omega))⟩
                        case measure => simp [intOf]; omega
                · have hpe : p = i := by omega
                  have htk : T.take p = T := List.take_of_length_le (by omega)
                  rw [htk]
                  have hch : chP c (pntG F T) x y = if waxS c x y = true then 119 else shP (pntG F T (y * 8 + x)) := rfl
                  have hbr := HXR.out
                  have HWX0 := fun w => A2Waxed_any c hfc x y hx8 hy8 w
                  obtain ⟨lt, hlt0⟩ : ∃ lt, shP (pntG F T (y * 8 + x)) = lt := ⟨_, rfl⟩
                  rw [hlt0] at hch ⊢
                  have hshq : rowOf wr wa.heap.size = kc sk 266 c := (keep_row hbq hBp).trans hshp
                  have hBq : wa.heap.size < wr.heap.size := by omega
                  have ed2 := HED.out
                  rw [← keep_row hbq hgd] at ed2
                  have hgdq : gd < wr.heap.size := by omega
                  have hsbw : sb < wr.heap.size := by omega
                  have hpn : ¬ (p : Int) < (i : Int) := by omega
                  have hxl : x < row.length := by rw [HRL.out]; exact hlx
                  rcases Bool.eq_false_or_eq_true (waxS c x y) with hwax | hwax
                  · rw [hwax] at HWX0 hch
                    rw [if_pos rfl] at hch
                    rw [hch] at hbr
                    have hb2 : row[x]'hxl = 119 := (List.getElem?_eq_some_iff.1 hbr).2
                    have HWX := Lib.hid HWX0
                    clear HWX0 hwax hch hlt0
                    go_wp2_with (go_at_call 25; refine (HWX.out _).mono ?_; rintro e w7 ⟨rfl, hb7⟩; have r_hb7 := keep_rowA hb7; have f_hb7 := keep_frA hb7; have s_hb7 := hb7.size; (try simp only [World.size_alloc, World.size_setCell, setRow_size, World.size_drew, size_drewNm] at r_hb7 f_hb7 s_hb7))
                    go_roundw
                    case rel => first | exact ⟨x + 1, by omega, by go_num, by repeat' (first | with_reducible exact Below.refl _ _ | with_reducible assumption | with_reducible refine Below.drew ?_ | with_reducible refine Below.drewN ?_ _ | with_reducible refine Below.alloc ?_ ?_ _ | with_reducible refine Below.setCell ?_ ?_ _ | with_reducible refine Below.setRow ?_ ?_ _ | with_reducible refine below_step (by assumption) ?_ ?_ | (show (_ : Nat) ≤ _; first | omega | (simp <;> omega)))⟩ | ((repeat (with_reducible apply Exists.intro)); refine And.intro ?_ ?_; rotate_left; (focus ((repeat' (with_reducible apply And.intro)) <;> rfl)); exact ⟨x + 1, by omega, by go_num, by repeat' (first | with_reducible exact Below.refl _ _ | with_reducible assumption | with_reducible refine Below.drew ?_ | with_reducible refine Below.drewN ?_ _ | with_reducible refine Below.alloc ?_ ?_ _ | with_reducible refine Below.setCell ?_ ?_ _ | with_reducible refine Below.setRow ?_ ?_ _ | with_reducible refine below_step (by assumption) ?_ ?_ | (show (_ : Nat) ≤ _; first | omega | (simp <;> omega)))⟩)
                    case measure => simp [intOf]; omega
                  · rw [hwax] at HWX0 hch
                    rw [if_neg (by decide)] at hch
                    rw [hch] at hbr
                    have hb2 : row[x]'hxl = lt := (List.getElem?_eq_some_iff.1 hbr).2
                    have HWX := Lib.hid HWX0
                    clear HWX0 hwax hch hlt0
                    go_wp2_with (go_at_call 25; refine (HWX.out _).mono ?_; rintro e w7 ⟨rfl, hb7⟩; have r_hb7 := keep_rowA hb7; have f_hb7 := keep_frA hb7; have s_hb7 := hb7.size; (try simp only [World.size_alloc, World.size_setCell, setRow_size, World.size_drew, size_drewNm] at r_hb7 f_hb7 s_hb7))
                    go_roundw
                    case rel => first | exact ⟨x + 1, by omega, by go_num, by repeat' (first | with_reducible exact Below.refl _ _ | with_reducible assumption | with_reducible refine Below.drew ?_ | with_reducible refine Below.drewN ?_ _ | with_reducible refine Below.alloc ?_ ?_ _ | with_reducible refine Below.setCell ?_ ?_ _ | with_reducible refine Below.setRow ?_ ?_ _ | with_reducible refine below_step (by assumption) ?_ ?_ | (show (_ : Nat) ≤ _; first | omega | (simp <;> omega)))⟩ | ((repeat (with_reducible apply Exists.intro)); refine And.intro ?_ ?_; rotate_left; (focus ((repeat' (with_reducible apply And.intro)) <;> rfl)); exact ⟨x + 1, by omega, by go_num, by repeat' (first | with_reducible exact Below.refl _ _ | with_reducible assumption | with_reducible refine Below.drew ?_ | with_reducible refine Below.drewN ?_ _ | with_reducible refine Below.alloc ?_ ?_ _ | with_reducible refine Below.setCell ?_ ?_ _ | with_reducible refine Below.setRow ?_ ?_ _ | with_reducible refine below_step (by assumption) ?_ ?_ | (show (_ : Nat) ≤ _; first | omega | (simp <;> omega)))⟩)
                    case measure => simp [intOf]; omega
            · have hxe : x = W := by omega
              subst hxe
              have hrn : ¬ (x : Int) < (row.length : Int) := by rw [HRL.out]; omega
              go_wp2
              go_roundw
              case rel => first | exact ⟨y + 1, by omega, by go_num, by repeat' (first | with_reducible exact Below.refl _ _ | with_reducible assumption | with_reducible refine Below.drew ?_ | with_reducible refine Below.drewN ?_ _ | with_reducible refine Below.alloc ?_ ?_ _ | with_reducible refine Below.setCell ?_ ?_ _ | with_reducible refine Below.setRow ?_ ?_ _ | with_reducible refine below_step (by assumption) ?_ ?_ | (show (_ : Nat) ≤ _; first | omega | (simp <;> omega)))⟩ | ((repeat (with_reducible apply Exists.intro)); refine And.intro ?_ ?_; rotate_left; (focus ((repeat' (with_reducible apply And.intro)) <;> rfl)); exact ⟨y + 1, by omega, by go_num, by repeat' (first | with_reducible exact Below.refl _ _ | with_reducible assumption | with_reducible refine Below.drew ?_ | with_reducible refine Below.drewN ?_ _ | with_reducible refine Below.alloc ?_ ?_ _ | with_reducible refine Below.setCell ?_ ?_ _ | with_reducible refine Below.setRow ?_ ?_ _ | with_reducible refine below_step (by assumption) ?_ ?_ | (show (_ : Nat) ≤ _; first | omega | (simp <;> omega)))⟩)
              case measure => simp [intOf]; omega
        · have hye : y = H := by omega
          subst hye
          have hyn : ¬ (y : Int) < (P.length : Int) := by rw [HPH.out]; omega
          go_wp2
          go_ret
          exact ⟨rfl, by repeat' (first | with_reducible exact Below.refl _ _ | with_reducible assumption | with_reducible refine Below.drew ?_ | with_reducible refine Below.drewN ?_ _ | with_reducible refine Below.alloc ?_ ?_ _ | with_reducible refine Below.setCell ?_ ?_ _ | with_reducible refine Below.setRow ?_ ?_ _ | with_reducible refine below_step (by assumption) ?_ ?_ | (show (_ : Nat) ≤ _; first | omega | (simp <;> omega)))⟩
end Go.Proofs.YtejnejplofddnaaGreatDoor
