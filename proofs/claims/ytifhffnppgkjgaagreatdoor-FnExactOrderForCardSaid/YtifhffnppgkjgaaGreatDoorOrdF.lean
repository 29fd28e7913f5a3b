/- The first order in which marks make a picture: both sides. -/
import Derived.Test.YtifhffnppgkjgaaGreatDoorOrdT
namespace Go.Proofs.YtifhffnppgkjgaaGreatDoor
open Go.RowKit
set_option linter.unusedVariables false
set_option linter.unusedSimpArgs false
set_option maxRecDepth 100000
/-- The first order, and the code. -/
noncomputable def ofL (c : Nat → Int) (n : Nat) (F : Nat → Mk) (P : List (List UInt8)) : List Nat := if vmB c n F = true then (allO c n F P).headD [] else []
noncomputable def ofE (c : Nat → Int) (n : Nat) (F : Nat → Mk) (P : List (List UInt8)) : Int := if vmB c n F = true then (if (allO c n F P).isEmpty = true then 6 else 0) else 1
theorem vmB_setF (c : Nat → Int) (n : Nat) (F : Nat → Mk) (G : Nat → Value) : vmB c n (setV F G) = vmB c n F := rfl
theorem ofL_set (c : Nat → Int) (n : Nat) (F : Nat → Mk) (G : Nat → Value) (P : List (List UInt8)) : ofL c n (setV F G) P = ofL c n F P := by
  unfold ofL
  rw [allO_set, vmB_setF]
theorem ofE_set (c : Nat → Int) (n : Nat) (F : Nat → Mk) (G : Nat → Value) (P : List (List UInt8)) : ofE c n (setV F G) P = ofE c n F P := by
  unfold ofE
  rw [allO_set, vmB_setF]
theorem of_no {c : Nat → Int} {n : Nat} {F : Nat → Mk} (P : List (List UInt8)) (h : vmB c n F = false) : ofL c n F P = [] ∧ ofE c n F P = 1 := by
  unfold ofL ofE
  rw [h, if_neg (by decide), if_neg (by decide)]
  exact ⟨rfl, rfl⟩
theorem of_none {c : Nat → Int} {n : Nat} {F : Nat → Mk} {P : List (List UInt8)} (h : vmB c n F = true) (hl : allO c n F P = []) : ofL c n F P = [] ∧ ofE c n F P = 6 := by
  unfold ofL ofE
  rw [h, hl, if_pos rfl, if_pos rfl]
  exact ⟨rfl, rfl⟩
theorem of_some {c : Nat → Int} {n : Nat} {F : Nat → Mk} {P : List (List UInt8)} {m : List Nat} {L : List (List Nat)} (h : vmB c n F = true) (hl : allO c n F P = m :: L) : ofL c n F P = m ∧ ofE c n F P = 0 := by
  unfold ofL ofE
  rw [h, hl, if_pos rfl, if_pos rfl]
  exact ⟨rfl, rfl⟩
theorem ofL_len {c : Nat → Int} {n : Nat} {F : Nat → Mk} {P : List (List UInt8)} (hn : n ≤ 1048576) : (ofL c n F P).length ≤ 1048576 := by
  unfold ofL
  split
  · cases h : allO c n F P with
    | nil => simp
    | cons m L =>
      have := (allO_len (c := c) (n := n) (F := F) (P := P) (m := m) (by rw [h]; simp)).1
      simp; omega
  · simp
theorem od_cellsF {w : World} {base : Nat} {e : TypeId} {g cap n : Nat} {xs : List Value} (h : w.ownsRow base e 1 (.slice (some ⟨g, 0, none⟩) n cap) n xs) : g < w.heap.size ∧ n ≤ (rowOf w g).size ∧ ∀ (j : Nat) (x : Value), xs[j]? = some x → (rowOf w g)[j]? = some x := by
  obtain ⟨hl, ⟨h0, -⟩ | ⟨g', cap', cur, hv, hb, hg, h1, h2, h3, ht⟩⟩ := h
  · cases h0
  · simp only [Value.slice.injEq, Option.some.injEq, Addr.mk.injEq] at hv
    obtain ⟨⟨rfl, -, -⟩, -, rfl⟩ := hv
    have hrow : rowOf w g = cur := by simp [rowOf, hg, objRow]
    refine ⟨(Array.getElem?_eq_some_iff.1 hg).1, by rw [hrow]; omega, fun j x hx => ?_⟩
    rw [hrow, ← Array.getElem?_toList]
    have hj : j < n := by have := (List.getElem?_eq_some_iff.1 hx).1; omega
    have := congrArg (fun q => q[j]?) ht
    simp only [List.getElem?_take] at this
    rw [if_pos (by omega)] at this
    rw [this]
    exact hx
theorem AllW.first {w w' : World} {B : Nat} {v : Value} {m : List Nat} {L : List (List Nat)} (h : AllW w w' B v (m :: L)) : ∃ g cap ev, v = .slice (some ⟨g, 0, none⟩) (L.length + 1) cap ∧ g < w'.heap.size ∧ L.length + 1 ≤ (rowOf w' g).size ∧ (rowOf w' g)[0]? = some ev ∧ OwnK .i64 1 w' B ev m.length (nl m) := by
  obtain ⟨D, h, hD0, hD⟩ := h
  match D, hD0 with
  | d :: D', hD0 =>
    unfold odL at hD0
    simp only [List.map_cons, List.cons.injEq] at hD0
    obtain ⟨rfl, rfl⟩ := hD0
    obtain ⟨g, cap, rfl, -, -⟩ := owns_posP h (by simp)
    obtain ⟨h1, h2, h3⟩ := od_cellsF h
    refine ⟨g, cap, d.1, by rw [List.length_map]; rfl, h1, by rw [List.length_map]; exact h2, h3 0 d.1 rfl, hD d (by simp)⟩
set_option maxHeartbeats 4000000 in
theorem sOrderFor_any (c : Nat → Int) (hfc : FitSheet c) (v : Value) (n b : Nat) (F : Nat → Mk) (hn : n ≤ 1048576) (hF : ∀ k, k < n → MkIn (F k) ∧ (F k).n ≤ 1048576) (pv : Value) (bp : Nat) (P : List (List UInt8)) (hP : P.length ≤ 1048576) (w : World) (h : OwnM w b v n F) (hpv : OwnT w bp pv P) :
    Calls Tryz.prog 20 #[.agg (kc sk 266 c), v, pv] w fun e w' => ∃ v', e = .returned (.tuple #[v', .int .i64 (ofE c n F P)]) ∧ OwnK .i64 1 w' w.heap.size v' (ofL c n F P).length (nl (ofL c n F P)) ∧ Below w.heap.size w w' := by
  have HX0 := fun p w h1 h2 h3 => l06Marks_any p c hfc v n b F hn hF w h1 h2 h3
  have HH := Lib.hid h
  have HPV := Lib.hid hpv
  rcases Bool.eq_false_or_eq_true (vmB c n F) with hv | hv
  · obtain ⟨hok, h6, hlay⟩ := vm_lay hv
    rw [hv] at HX0
    have HX := Lib.hid HX0
    have HA := Lib.hid (fun p lv bl w2 hB1 hB2 h1 h2 h3 h4 h5 => sAll_any p c hfc hok v n b F h6 hlay pv bp P hP lv bl w.heap.size w2 hB1 hB2 h1 h2 h3 h4 h5)
    rcases hLL : allO c n F P with _ | ⟨m, L⟩
    · rw [(of_none hv hLL).1, (of_none hv hLL).2]
      rw [hLL] at HA
      clear h hpv hF hv hok hlay HX0 hLL
      go_enter Tryz.func20, Tryz.ntmps20
      go_wp2_with (first | (go_at_call 28; refine (HX.out w.heap.size _ (by (go_simp <;> (intros; omega))) (by first | omega | (simp <;> omega)) (HH.out.below (by repeat' (first | with_reducible exact Below.refl _ _ | with_reducible assumption | with_reducible refine Below.drew ?_ | with_reducible refine Below.drewN ?_ _ | with_reducible refine Below.alloc ?_ ?_ _ | with_reducible refine Below.setCell ?_ ?_ _ | with_reducible refine Below.setRow ?_ ?_ _ | with_reducible refine below_step (by assumption) ?_ ?_ | (show (_ : Nat) ≤ _; first | omega | (simp <;> omega)))) (Nat.le_refl _))).mono ?_; rintro e w1 ⟨rfl, hb1⟩; have r1 := keep_rowA hb1; have f1 := keep_frA hb1; have s1 := hb1.size; (try simp only [World.size_alloc, World.size_setCell, setRow_size, World.size_drew, size_drewNm] at r1 f1 s1)) | (go_at_call 29; refine (HA.out w.heap.size _ w1.heap.size _ (by first | omega | (simp <;> omega)) (by first | omega | (simp <;> omega)) (by (go_simp <;> (intros; omega))) (by first | omega | (simp <;> omega)) (HH.out.below (by repeat' (first | with_reducible exact Below.refl _ _ | with_reducible assumption | with_reducible refine Below.drew ?_ | with_reducible refine Below.drewN ?_ _ | with_reducible refine Below.alloc ?_ ?_ _ | with_reducible refine Below.setCell ?_ ?_ _ | with_reducible refine Below.setRow ?_ ?_ _ | with_reducible refine below_step (by assumption) ?_ ?_ | (show (_ : Nat) ≤ _; first | omega | (simp <;> omega)))) (Nat.le_refl _)) (HPV.out.below (by repeat' (first | with_reducible exact Below.refl _ _ | with_reducible assumption | with_reducible refine Below.drew ?_ | with_reducible refine Below.drewN ?_ _ | with_reducible refine Below.alloc ?_ ?_ _ | with_reducible refine Below.setCell ?_ ?_ _ | with_reducible refine Below.setRow ?_ ?_ _ | with_reducible refine below_step (by assumption) ?_ ?_ | (show (_ : Nat) ≤ _; first | omega | (simp <;> omega)))) (Nat.le_refl _)) (own_empty_i64 _ _)).mono ?_; rintro e w2 ⟨v2, rfl, hall, hb2⟩; obtain ⟨ar, cr, rfl⟩ := hall.len; clear hall; have r_hb2 := keep_rowA hb2; have f_hb2 := keep_frA hb2; have s_hb2 := hb2.size; (try simp only [World.size_alloc, World.size_setCell, setRow_size, World.size_drew, size_drewNm] at r_hb2 f_hb2 s_hb2)))
      refine bodyPost_ret (v := Value.tuple #[Value.slice (some (⟨_, 0, none⟩ : Addr)) 0 0, Value.int .i64 6]) (res_tt rfl rfl rfl) rfl ⟨_, rfl, .inr ⟨_, _, rfl, by first | omega | (simp <;> omega), by simp, by (go_simp <;> (intros; omega)), by simp, fun j hj => absurd hj (by simp)⟩, by repeat' (first | with_reducible exact Below.refl _ _ | with_reducible assumption | with_reducible refine Below.drew ?_ | with_reducible refine Below.drewN ?_ _ | with_reducible refine Below.alloc ?_ ?_ _ | with_reducible refine Below.setCell ?_ ?_ _ | with_reducible refine Below.setRow ?_ ?_ _ | with_reducible refine below_step (by assumption) ?_ ?_ | (show (_ : Nat) ≤ _; first | omega | (simp <;> omega)))⟩
    · rw [(of_some hv hLL).1, (of_some hv hLL).2]
      rw [hLL] at HA
      clear h hpv hF hv hok hlay HX0 hLL
      go_enter Tryz.func20, Tryz.ntmps20
      go_wp2_with (first | (go_at_call 28; refine (HX.out w.heap.size _ (by (go_simp <;> (intros; omega))) (by first | omega | (simp <;> omega)) (HH.out.below (by repeat' (first | with_reducible exact Below.refl _ _ | with_reducible assumption | with_reducible refine Below.drew ?_ | with_reducible refine Below.drewN ?_ _ | with_reducible refine Below.alloc ?_ ?_ _ | with_reducible refine Below.setCell ?_ ?_ _ | with_reducible refine Below.setRow ?_ ?_ _ | with_reducible refine below_step (by assumption) ?_ ?_ | (show (_ : Nat) ≤ _; first | omega | (simp <;> omega)))) (Nat.le_refl _))).mono ?_; rintro e w1 ⟨rfl, hb1⟩; have r1 := keep_rowA hb1; have f1 := keep_frA hb1; have s1 := hb1.size; (try simp only [World.size_alloc, World.size_setCell, setRow_size, World.size_drew, size_drewNm] at r1 f1 s1)) | (go_at_call 29; refine (HA.out w.heap.size _ w1.heap.size _ (by first | omega | (simp <;> omega)) (by first | omega | (simp <;> omega)) (by (go_simp <;> (intros; omega))) (by first | omega | (simp <;> omega)) (HH.out.below (by repeat' (first | with_reducible exact Below.refl _ _ | with_reducible assumption | with_reducible refine Below.drew ?_ | with_reducible refine Below.drewN ?_ _ | with_reducible refine Below.alloc ?_ ?_ _ | with_reducible refine Below.setCell ?_ ?_ _ | with_reducible refine Below.setRow ?_ ?_ _ | with_reducible refine below_step (by assumption) ?_ ?_ | (show (_ : Nat) ≤ _; first | omega | (simp <;> omega)))) (Nat.le_refl _)) (HPV.out.below (by repeat' (first | with_reducible exact Below.refl _ _ | with_reducible assumption | with_reducible refine Below.drew ?_ | with_reducible refine Below.drewN ?_ _ | with_reducible refine Below.alloc ?_ ?_ _ | with_reducible refine Below.setCell ?_ ?_ _ | with_reducible refine Below.setRow ?_ ?_ _ | with_reducible refine below_step (by assumption) ?_ ?_ | (show (_ : Nat) ≤ _; first | omega | (simp <;> omega)))) (Nat.le_refl _)) (own_empty_i64 _ _)).mono ?_; rintro e w2 ⟨v2, rfl, hall, hb2⟩; obtain ⟨g, cr, ev, rfl, hg, hgs, hg0, hok⟩ := hall.first; obtain ⟨ae, ce, rfl⟩ := hok.len; have HOK := Lib.hid hok; have hl0 : ((((L.length + 1 : Nat) : Int)) == 0) = false := (by rw [beq_eq_false_iff_ne]; omega); have hl1 : ¬ (((L.length + 1 : Nat) : Int)) = 0 := (by omega); clear hall hok))
      refine bodyPost_ret (v := .tuple #[.slice ae m.length ce, .int .i64 0]) (res_tt rfl rfl rfl) rfl ⟨_, rfl, HOK.out.below (by repeat' (first | with_reducible exact Below.refl _ _ | with_reducible assumption | with_reducible refine Below.drew ?_ | with_reducible refine Below.drewN ?_ _ | with_reducible refine Below.alloc ?_ ?_ _ | with_reducible refine Below.setCell ?_ ?_ _ | with_reducible refine Below.setRow ?_ ?_ _ | with_reducible refine below_step (by assumption) ?_ ?_ | (show (_ : Nat) ≤ _; first | omega | (simp <;> omega)))) (Nat.le_refl _), by repeat' (first | with_reducible exact Below.refl _ _ | with_reducible assumption | with_reducible refine Below.drew ?_ | with_reducible refine Below.drewN ?_ _ | with_reducible refine Below.alloc ?_ ?_ _ | with_reducible refine Below.setCell ?_ ?_ _ | with_reducible refine Below.setRow ?_ ?_ _ | with_reducible refine below_step (by assumption) ?_ ?_ | (show (_ : Nat) ≤ _; first | omega | (simp <;> omega)))⟩
  · rw [hv] at HX0
    rw [(of_no P hv).1, (of_no P hv).2]
    have HX := Lib.hid HX0
    clear h hpv hF hv HX0
    go_enter Tryz.func20, Tryz.ntmps20
    go_wp2_with (go_at_call 28; refine (HX.out w.heap.size _ (by (go_simp <;> (intros; omega))) (by first | omega | (simp <;> omega)) (HH.out.below (by repeat' (first | with_reducible exact Below.refl _ _ | with_reducible assumption | with_reducible refine Below.drew ?_ | with_reducible refine Below.drewN ?_ _ | with_reducible refine Below.alloc ?_ ?_ _ | with_reducible refine Below.setCell ?_ ?_ _ | with_reducible refine Below.setRow ?_ ?_ _ | with_reducible refine below_step (by assumption) ?_ ?_ | (show (_ : Nat) ≤ _; first | omega | (simp <;> omega)))) (Nat.le_refl _))).mono ?_; rintro e w1 ⟨rfl, hb1⟩; have r1 := keep_rowA hb1; have f1 := keep_frA hb1; have s1 := hb1.size; (try simp only [World.size_alloc, World.size_setCell, setRow_size, World.size_drew, size_drewNm] at r1 f1 s1))
    refine bodyPost_ret (v := Value.tuple #[Value.slice (some (⟨_, 0, none⟩ : Addr)) 0 0, Value.int .i64 1]) (res_tt rfl rfl rfl) rfl ⟨_, rfl, .inr ⟨_, _, rfl, by first | omega | (simp <;> omega), by simp, by (go_simp <;> (intros; omega)), by simp, fun j hj => absurd hj (by simp)⟩, by repeat' (first | with_reducible exact Below.refl _ _ | with_reducible assumption | with_reducible refine Below.drew ?_ | with_reducible refine Below.drewN ?_ _ | with_reducible refine Below.alloc ?_ ?_ _ | with_reducible refine Below.setCell ?_ ?_ _ | with_reducible refine Below.setRow ?_ ?_ _ | with_reducible refine below_step (by assumption) ?_ ?_ | (show (_ : Nat) ≤ _; first | omega | (simp <;> omega)))⟩
set_option maxHeartbeats 4000000 in
theorem iOrderFor_any (c : Nat → Int) (hfc : FitSheet c) (v : Value) (n b : Nat) (F : Nat → Mk) (hn : n ≤ 1048576) (hF : ∀ k, k < n → MkIn (F k) ∧ (F k).n ≤ 1048576) (pv : Value) (bp : Nat) (P : List (List UInt8)) (hP : P.length ≤ 1048576) (w : World) (h : OwnM w b v n F) (hpv : OwnT w bp pv P) (hmx : MxW w) :
    Calls Tryz.prog 21 #[.agg (kc sk 266 c), v, pv] w fun e w' => ∃ v', e = .returned (.tuple #[v', .int .i64 (ofE c n F P)]) ∧ OwnK .i64 1 w' w.heap.size v' (ofL c n F P).length (nl (ofL c n F P)) ∧ Below w.heap.size w w' := by
  have HX0 := fun w h1 => iValidMarks_any c hfc v n b F hn hF w h1
  have HH := Lib.hid h
  have HPV := Lib.hid hpv
  have HMX := Lib.hid hmx
  rcases Bool.eq_false_or_eq_true (vmB c n F) with hv | hv
  · obtain ⟨hok, h6, hlay⟩ := vm_lay hv
    rw [hv] at HX0
    have HX := Lib.hid HX0
    have HA := Lib.hid (fun p w2 hB2 h1 h2 h3 h4 h5 => iAll_any p c hfc hok v n b F h6 hlay pv bp P hP w.heap.size w2 hB2 h1 h2 h3 h4 h5)
    rcases hLL : allO c n F P with _ | ⟨m, L⟩
    · rw [(of_none hv hLL).1, (of_none hv hLL).2]
      rw [hLL] at HA
      clear h hpv hF hv hok hlay HX0 hLL hmx
      go_enter Tryz.func21, Tryz.ntmps21
      go_wp2_with (first | (go_at_call 34; refine (HX.out _ (HH.out.below (by repeat' (first | with_reducible exact Below.refl _ _ | with_reducible assumption | with_reducible refine Below.drew ?_ | with_reducible refine Below.drewN ?_ _ | with_reducible refine Below.alloc ?_ ?_ _ | with_reducible refine Below.setCell ?_ ?_ _ | with_reducible refine Below.setRow ?_ ?_ _ | with_reducible refine below_step (by assumption) ?_ ?_ | (show (_ : Nat) ≤ _; first | omega | (simp <;> omega)))) (Nat.le_refl _))).mono ?_; rintro e w1 ⟨rfl, hb1⟩; have r1 := keep_rowA hb1; have f1 := keep_frA hb1; have s1 := hb1.size; (try simp only [World.size_alloc, World.size_setCell, setRow_size, World.size_drew, size_drewNm] at r1 f1 s1)) | (go_at_call 36; refine (HA.out w.heap.size _ (by first | omega | (simp <;> omega)) (by (go_simp <;> (intros; omega))) (by first | omega | (simp <;> omega)) (HH.out.below (by repeat' (first | with_reducible exact Below.refl _ _ | with_reducible assumption | with_reducible refine Below.drew ?_ | with_reducible refine Below.drewN ?_ _ | with_reducible refine Below.alloc ?_ ?_ _ | with_reducible refine Below.setCell ?_ ?_ _ | with_reducible refine Below.setRow ?_ ?_ _ | with_reducible refine below_step (by assumption) ?_ ?_ | (show (_ : Nat) ≤ _; first | omega | (simp <;> omega)))) (Nat.le_refl _)) (HPV.out.below (by repeat' (first | with_reducible exact Below.refl _ _ | with_reducible assumption | with_reducible refine Below.drew ?_ | with_reducible refine Below.drewN ?_ _ | with_reducible refine Below.alloc ?_ ?_ _ | with_reducible refine Below.setCell ?_ ?_ _ | with_reducible refine Below.setRow ?_ ?_ _ | with_reducible refine below_step (by assumption) ?_ ?_ | (show (_ : Nat) ≤ _; first | omega | (simp <;> omega)))) (Nat.le_refl _)) (HMX.out.below (by repeat' (first | with_reducible exact Below.refl _ _ | with_reducible assumption | with_reducible refine Below.drew ?_ | with_reducible refine Below.drewN ?_ _ | with_reducible refine Below.alloc ?_ ?_ _ | with_reducible refine Below.setCell ?_ ?_ _ | with_reducible refine Below.setRow ?_ ?_ _ | with_reducible refine below_step (by assumption) ?_ ?_ | (show (_ : Nat) ≤ _; first | omega | (simp <;> omega)))))).mono ?_; rintro e w2 ⟨v2, rfl, hall, hb2⟩; obtain ⟨ar, cr, rfl⟩ := hall.len; clear hall; have r_hb2 := keep_rowA hb2; have f_hb2 := keep_frA hb2; have s_hb2 := hb2.size; (try simp only [World.size_alloc, World.size_setCell, setRow_size, World.size_drew, size_drewNm] at r_hb2 f_hb2 s_hb2)))
      refine bodyPost_ret (v := .tuple #[.slice none 0 0, .int .i64 6]) (res_tt rfl rfl rfl) rfl ⟨_, rfl, .inl ⟨rfl, rfl⟩, by repeat' (first | with_reducible exact Below.refl _ _ | with_reducible assumption | with_reducible refine Below.drew ?_ | with_reducible refine Below.drewN ?_ _ | with_reducible refine Below.alloc ?_ ?_ _ | with_reducible refine Below.setCell ?_ ?_ _ | with_reducible refine Below.setRow ?_ ?_ _ | with_reducible refine below_step (by assumption) ?_ ?_ | (show (_ : Nat) ≤ _; first | omega | (simp <;> omega)))⟩
    · rw [(of_some hv hLL).1, (of_some hv hLL).2]
      rw [hLL] at HA
      clear h hpv hF hv hok hlay HX0 hLL hmx
      go_enter Tryz.func21, Tryz.ntmps21
      go_wp2_with (first | (go_at_call 34; refine (HX.out _ (HH.out.below (by repeat' (first | with_reducible exact Below.refl _ _ | with_reducible assumption | with_reducible refine Below.drew ?_ | with_reducible refine Below.drewN ?_ _ | with_reducible refine Below.alloc ?_ ?_ _ | with_reducible refine Below.setCell ?_ ?_ _ | with_reducible refine Below.setRow ?_ ?_ _ | with_reducible refine below_step (by assumption) ?_ ?_ | (show (_ : Nat) ≤ _; first | omega | (simp <;> omega)))) (Nat.le_refl _))).mono ?_; rintro e w1 ⟨rfl, hb1⟩; have r1 := keep_rowA hb1; have f1 := keep_frA hb1; have s1 := hb1.size; (try simp only [World.size_alloc, World.size_setCell, setRow_size, World.size_drew, size_drewNm] at r1 f1 s1)) | (go_at_call 36; refine (HA.out w.heap.size _ (by first | omega | (simp <;> omega)) (by (go_simp <;> (intros; omega))) (by first | omega | (simp <;> omega)) (HH.out.below (by repeat' (first | with_reducible exact Below.refl _ _ | with_reducible assumption | with_reducible refine Below.drew ?_ | with_reducible refine Below.drewN ?_ _ | with_reducible refine Below.alloc ?_ ?_ _ | with_reducible refine Below.setCell ?_ ?_ _ | with_reducible refine Below.setRow ?_ ?_ _ | with_reducible refine below_step (by assumption) ?_ ?_ | (show (_ : Nat) ≤ _; first | omega | (simp <;> omega)))) (Nat.le_refl _)) (HPV.out.below (by repeat' (first | with_reducible exact Below.refl _ _ | with_reducible assumption | with_reducible refine Below.drew ?_ | with_reducible refine Below.drewN ?_ _ | with_reducible refine Below.alloc ?_ ?_ _ | with_reducible refine Below.setCell ?_ ?_ _ | with_reducible refine Below.setRow ?_ ?_ _ | with_reducible refine below_step (by assumption) ?_ ?_ | (show (_ : Nat) ≤ _; first | omega | (simp <;> omega)))) (Nat.le_refl _)) (HMX.out.below (by repeat' (first | with_reducible exact Below.refl _ _ | with_reducible assumption | with_reducible refine Below.drew ?_ | with_reducible refine Below.drewN ?_ _ | with_reducible refine Below.alloc ?_ ?_ _ | with_reducible refine Below.setCell ?_ ?_ _ | with_reducible refine Below.setRow ?_ ?_ _ | with_reducible refine below_step (by assumption) ?_ ?_ | (show (_ : Nat) ≤ _; first | omega | (simp <;> omega)))))).mono ?_; rintro e w2 ⟨v2, rfl, hall, hb2⟩; obtain ⟨g, cr, ev, rfl, hg, hgs, hg0, hok⟩ := hall.first; obtain ⟨ae, ce, rfl⟩ := hok.len; have HOK := Lib.hid hok; have hl0 : ((((L.length + 1 : Nat) : Int)) == 0) = false := (by rw [beq_eq_false_iff_ne]; omega); have hl1 : ¬ (((L.length + 1 : Nat) : Int)) = 0 := (by omega); clear hall hok))
      refine bodyPost_ret (v := .tuple #[.slice ae m.length ce, .int .i64 0]) (res_tt rfl rfl rfl) rfl ⟨_, rfl, HOK.out.below (by repeat' (first | with_reducible exact Below.refl _ _ | with_reducible assumption | with_reducible refine Below.drew ?_ | with_reducible refine Below.drewN ?_ _ | with_reducible refine Below.alloc ?_ ?_ _ | with_reducible refine Below.setCell ?_ ?_ _ | with_reducible refine Below.setRow ?_ ?_ _ | with_reducible refine below_step (by assumption) ?_ ?_ | (show (_ : Nat) ≤ _; first | omega | (simp <;> omega)))) (Nat.le_refl _), by repeat' (first | with_reducible exact Below.refl _ _ | with_reducible assumption | with_reducible refine Below.drew ?_ | with_reducible refine Below.drewN ?_ _ | with_reducible refine Below.alloc ?_ ?_ _ | with_reducible refine Below.setCell ?_ ?_ _ | with_reducible refine Below.setRow ?_ ?_ _ | with_reducible refine below_step (by assumption) ?_ ?_ | (show (_ : Nat) ≤ _; first | omega | (simp <;> omega)))⟩
  · rw [hv] at HX0
    rw [(of_no P hv).1, (of_no P hv).2]
    have HX := Lib.hid HX0
    clear h hpv hF hv HX0 hmx
    go_enter Tryz.func21, Tryz.ntmps21
    go_wp2_with (go_at_call 34; refine (HX.out _ (HH.out.below (by repeat' (first | with_reducible exact Below.refl _ _ | with_reducible assumption | with_reducible refine Below.drew ?_ | with_reducible refine Below.drewN ?_ _ | with_reducible refine Below.alloc ?_ ?_ _ | with_reducible refine Below.setCell ?_ ?_ _ | with_reducible refine Below.setRow ?_ ?_ _ | with_reducible refine below_step (by assumption) ?_ ?_ | (show (_ : Nat) ≤ _; first | omega | (simp <;> omega)))) (Nat.le_refl _))).mono ?_; rintro e w1 ⟨rfl, hb1⟩; have r1 := keep_rowA hb1; have f1 := keep_frA hb1; have s1 := hb1.size; (try simp only [World.size_alloc, World.size_setCell, setRow_size, World.size_drew, size_drewNm] at r1 f1 s1))
    refine bodyPost_ret (v := .tuple #[.slice none 0 0, .int .i64 1]) (res_tt rfl rfl rfl) rfl ⟨_, rfl, .inl ⟨rfl, rfl⟩, by repeat' (first | with_reducible exact Below.refl _ _ | with_reducible assumption | with_reducible refine Below.drew ?_ | with_reducible refine Below.drewN ?_ _ | with_reducible refine Below.alloc ?_ ?_ _ | with_reducible refine Below.setCell ?_ ?_ _ | with_reducible refine Below.setRow ?_ ?_ _ | with_reducible refine below_step (by assumption) ?_ ?_ | (show (_ : Nat) ≤ _; first | omega | (simp <;> omega)))⟩
end Go.Proofs.YtifhffnppgkjgaaGreatDoor
