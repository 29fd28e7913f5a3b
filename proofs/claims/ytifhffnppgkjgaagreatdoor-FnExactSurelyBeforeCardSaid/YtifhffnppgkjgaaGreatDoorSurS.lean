/- Whether a mark is surely before another one: both sides. -/
import Derived.Test.YtifhffnppgkjgaaGreatDoorOrdT
import Derived.BigQuiet
import Derived.Deep.QuietTactic
namespace Go.Proofs.YtifhffnppgkjgaaGreatDoor
open Go.RowKit
set_option linter.unusedVariables false
set_option linter.unusedSimpArgs false
set_option maxRecDepth 100000
theorem od_cells {w : World} {base : Nat} {e : TypeId} {g cap n : Nat} {xs : List Value} (h : w.ownsRow base e 1 (.slice (some ⟨g, 0, none⟩) n cap) n xs) : g < w.heap.size ∧ n ≤ (rowOf w g).size ∧ frOf w g = (0, 0) ∧ ∀ (j : Nat) (x : Value), xs[j]? = some x → (rowOf w g)[j]? = some x := by
  obtain ⟨hl, ⟨h0, -⟩ | ⟨g', cap', cur, hv, hb, hg, h1, h2, h3, ht⟩⟩ := h
  · cases h0
  · simp only [Value.slice.injEq, Option.some.injEq, Addr.mk.injEq] at hv
    obtain ⟨⟨rfl, -, -⟩, -, rfl⟩ := hv
    have hrow : rowOf w g = cur := by simp [rowOf, hg, objRow]
    refine ⟨(Array.getElem?_eq_some_iff.1 hg).1, by rw [hrow]; omega, by simp [frOf, hg, objFr], fun j x hx => ?_⟩
    rw [hrow, ← Array.getElem?_toList]
    have hj : j < n := by have := (List.getElem?_eq_some_iff.1 hx).1; omega
    have := congrArg (fun q => q[j]?) ht
    simp only [List.getElem?_take] at this
    rw [if_pos (by omega)] at this
    rw [this]
    exact hx
theorem AllW.at {w w' : World} {B : Nat} {v : Value} {L : List (List Nat)} (h : AllW w w' B v L) (h0 : 0 < L.length) : ∃ g cap, v = .slice (some ⟨g, 0, none⟩) L.length cap ∧ g < w'.heap.size ∧ L.length ≤ (rowOf w' g).size ∧ ∀ (k : Nat) (m : List Nat), L[k]? = some m → ∃ ev, (rowOf w' g)[k]? = some ev ∧ OwnK .i64 1 w' B ev m.length (nl m) := by
  obtain ⟨D, h, rfl, hD⟩ := h
  rw [odL_len] at h0 ⊢
  obtain ⟨g, cap, rfl, -, -⟩ := owns_posP h h0
  obtain ⟨h1, h2, -, h3⟩ := od_cells h
  refine ⟨g, cap, rfl, h1, h2, fun k m hm => ?_⟩
  unfold odL at hm
  rw [List.getElem?_map] at hm
  cases hd : D[k]? with
  | none => rw [hd] at hm; cases hm
  | some d =>
    rw [hd] at hm
    obtain rfl := Option.some.inj hm
    have hb := hD d (List.mem_of_getElem? hd)
    exact ⟨d.1, h3 k d.1 (by unfold odV; rw [List.getElem?_map, hd]; rfl), hb⟩
theorem belowQ (w : World) (n : Nat) : Below w.heap.size w (w.drewN n) := by repeat' (first | with_reducible exact Below.refl _ _ | with_reducible assumption | with_reducible refine Below.drew ?_ | with_reducible refine Below.drewN ?_ _ | with_reducible refine Below.alloc ?_ ?_ _ | with_reducible refine Below.setCell ?_ ?_ _ | with_reducible refine Below.setRow ?_ ?_ _ | with_reducible refine below_step (by assumption) ?_ ?_ | (show (_ : Nat) ≤ _; first | omega | (simp <;> omega)))
/-- One stands behind the other. -/
def behB (a b : Nat) (m : List Nat) : Bool := decide (ixL m b < ixL m a)
def suB (L : List (List Nat)) (a b : Nat) : Bool := !(L.any (behB a b))
theorem su_no {L : List (List Nat)} {a b k : Nat} {m : List Nat} (hm : L[k]? = some m) (h : behB a b m = true) : suB L a b = false := by
  unfold suB
  rw [List.any_eq_true.2 ⟨m, List.mem_of_getElem? hm, h⟩]; rfl
theorem su_yes {L : List (List Nat)} {a b : Nat} (h : ∀ j m, j < L.length → L[j]? = some m → behB a b m = false) : suB L a b = true := by
  unfold suB
  rw [Bool.not_eq_true', List.any_eq_false]
  intro m hm
  obtain ⟨j, hj, rfl⟩ := List.getElem_of_mem hm
  rw [h j _ hj (List.getElem?_eq_getElem hj)]; decide
set_option maxHeartbeats 4000000 in
theorem l06Place_q (lv : Value) (b : Nat) (l : List Nat) (hl : l.length ≤ 1048576) (i : Nat) (w : World) (h : OwnK .i64 1 w b lv l.length (nl l)) :
    Calls Tryz.prog 39 #[lv, .int .i64 (i : Int)] w fun e w' => e = .returned (.int .i64 (ixL l i)) ∧ w' = w := by
  have HH := Lib.hid h
  obtain ⟨a, cap, rfl⟩ := h.len
  clear h
  go_enter Tryz.func39, Tryz.ntmps39
  go_wp2
  go_loopw [5] (fun z wr => ∃ k : Nat, k ≤ l.length ∧ z = .int .i64 k ∧ w = wr ∧ ∀ j, j < k → l[j]? ≠ some i) (fun z wr => l.length + 1 - (intOf z).toNat)
  case atStart => exact ⟨0, by omega, rfl, rfl, fun j hj => absurd hj (by omega)⟩
  case round =>
    obtain ⟨k, hk, rfl, rfl, hno⟩ := hrel
    have HNO := Lib.hid hno
    clear hno
    by_cases hlt : k < l.length
    · obtain ⟨g, cap', hv, -, hg, -, hRs, hc⟩ := HH.out.pos (by omega)
      simp only [Value.slice.injEq] at hv
      obtain ⟨rfl, -, rfl⟩ := hv
      obtain ⟨x, hx⟩ : ∃ x, l[k]? = some x := ⟨_, List.getElem?_eq_getElem hlt⟩
      have e0 := hc k (by omega)
      rw [nl_at hx] at e0
      have hlt2 : (k : Int) < (l.length : Int) := by omega
      have hw1 : IntKind.i64.wrap ((k : Int) + 1) = ((k + 1 : Nat) : Int) := by rw [IntWalk.i64_in _ (by omega)]; rfl
      clear hc hRs
      by_cases hxi : x = i
      · subst hxi
        have HI := Lib.hid (ixL_hit hx HNO.out)
        clear hx
        go_wp2
        go_ret
        exact ⟨by rw [HI.out]; rfl, rfl⟩
      · have h1 : ((x : Int) == (i : Int)) = false := by rw [beq_eq_false_iff_ne]; omega
        have h2 : ¬ x = i := hxi
        have h3 : ¬ (x : Int) = (i : Int) := by omega
        have HN := Lib.hid (show ∀ j, j < k + 1 → l[j]? ≠ some i from fun j hj => by
          rcases Nat.lt_succ_iff_lt_or_eq.1 hj with h | rfl
          · exact HNO.out j h
          · rw [hx]; exact fun e => hxi (Option.some.inj e))
        clear hx
        go_wp2
        go_roundw
        case rel => first | exact ⟨k + 1, by omega, by go_num, (by first | rfl | trivial), HN.out⟩ | ((repeat (with_reducible apply Exists.intro)); refine And.intro ?_ ?_; rotate_left; (focus ((repeat' (with_reducible apply And.intro)) <;> rfl)); exact ⟨k + 1, by omega, by go_num, (by first | rfl | trivial), HN.out⟩)
        case measure => simp [intOf]; omega
    · have hke : k = l.length := by omega
      subst hke
      have HI := Lib.hid (ixL_miss HNO.out)
      go_wp2
      go_ret
      exact ⟨by rw [HI.out]; rfl, rfl⟩
set_option maxHeartbeats 4000000 in
theorem index_q (lv : Value) (b : Nat) (l : List Nat) (hl : l.length ≤ 1048576) (i : Nat) (w : World) (h : OwnK .i64 1 w b lv l.length (nl l)) :
    Calls Tryz.prog 44 #[lv, .int .i64 (i : Int)] w fun e w' => e = .returned (.int .i64 (ixL l i)) ∧ w' = w := by
  have HH := Lib.hid h
  obtain ⟨a, cap, rfl⟩ := h.len
  clear h
  go_enter Tryz.func44, Tryz.ntmps44
  go_wp2
  go_loopw [8] (fun z wr => ∃ k : Nat, k ≤ l.length ∧ z = .int .i64 k ∧ w = wr ∧ ∀ j, j < k → l[j]? ≠ some i) (fun z wr => l.length + 1 - (intOf z).toNat)
  case atStart => exact ⟨0, by omega, rfl, rfl, fun j hj => absurd hj (by omega)⟩
  case round =>
    obtain ⟨k, hk, rfl, rfl, hno⟩ := hrel
    have HNO := Lib.hid hno
    clear hno
    by_cases hlt : k < l.length
    · obtain ⟨g, cap', hv, -, hg, -, hRs, hc⟩ := HH.out.pos (by omega)
      simp only [Value.slice.injEq] at hv
      obtain ⟨rfl, -, rfl⟩ := hv
      obtain ⟨x, hx⟩ : ∃ x, l[k]? = some x := ⟨_, List.getElem?_eq_getElem hlt⟩
      have e0 := hc k (by omega)
      rw [nl_at hx] at e0
      have hlt2 : (k : Int) < (l.length : Int) := by omega
      have hw1 : IntKind.i64.wrap ((k : Int) + 1) = ((k + 1 : Nat) : Int) := by rw [IntWalk.i64_in _ (by omega)]; rfl
      clear hc hRs
      by_cases hxi : x = i
      · subst hxi
        have HI := Lib.hid (ixL_hit hx HNO.out)
        clear hx
        go_wp2
        go_ret
        exact ⟨by rw [HI.out]; rfl, rfl⟩
      · have h1 : ((i : Int) == (x : Int)) = false := by rw [beq_eq_false_iff_ne]; omega
        have h2 : ¬ i = x := fun e => hxi e.symm
        have h3 : ¬ (i : Int) = (x : Int) := by omega
        have HN := Lib.hid (show ∀ j, j < k + 1 → l[j]? ≠ some i from fun j hj => by
          rcases Nat.lt_succ_iff_lt_or_eq.1 hj with h | rfl
          · exact HNO.out j h
          · rw [hx]; exact fun e => hxi (Option.some.inj e))
        clear hx
        go_wp2
        go_roundw
        case rel => first | exact ⟨k + 1, by omega, by go_num, (by first | rfl | trivial), HN.out⟩ | ((repeat (with_reducible apply Exists.intro)); refine And.intro ?_ ?_; rotate_left; (focus ((repeat' (with_reducible apply And.intro)) <;> rfl)); exact ⟨k + 1, by omega, by go_num, (by first | rfl | trivial), HN.out⟩)
        case measure => simp [intOf]; omega
    · have hke : k = l.length := by omega
      subst hke
      have HI := Lib.hid (ixL_miss HNO.out)
      go_wp2
      go_ret
      exact ⟨by rw [HI.out]; rfl, rfl⟩
def rngB (n : Nat) (a b : Int) : Bool := inB a 0 ((n : Int) - 1) && (inB b 0 ((n : Int) - 1) && !(a == b))
noncomputable def surB (c : Nat → Int) (n : Nat) (F : Nat → Mk) (P : List (List UInt8)) (a b : Int) : Bool := vmB c n F && (rngB n a b && (!(allO c n F P).isEmpty && suB (allO c n F P) a.toNat b.toNat))
noncomputable def surE (c : Nat → Int) (n : Nat) (F : Nat → Mk) (P : List (List UInt8)) (a b : Int) : Int := if vmB c n F = true then (if rngB n a b = true then (if (allO c n F P).isEmpty = true then 6 else 0) else 2) else 1
theorem sur_bad {c : Nat → Int} {n : Nat} {F : Nat → Mk} (P : List (List UInt8)) (a b : Int) (h : vmB c n F = false) : surB c n F P a b = false ∧ surE c n F P a b = 1 := by
  unfold surB surE
  rw [h, if_neg (by decide)]
  exact ⟨rfl, rfl⟩
theorem sur_rng {c : Nat → Int} {n : Nat} {F : Nat → Mk} (P : List (List UInt8)) {a b : Int} (h : vmB c n F = true) (hr : rngB n a b = false) : surB c n F P a b = false ∧ surE c n F P a b = 2 := by
  unfold surB surE
  rw [h, hr, if_pos rfl, if_neg (by decide)]
  exact ⟨rfl, rfl⟩
theorem sur_none {c : Nat → Int} {n : Nat} {F : Nat → Mk} {P : List (List UInt8)} {a b : Int} (h : vmB c n F = true) (hr : rngB n a b = true) (hl : allO c n F P = []) : surB c n F P a b = false ∧ surE c n F P a b = 6 := by
  unfold surB surE
  rw [h, hr, hl, if_pos rfl, if_pos rfl]
  exact ⟨rfl, rfl⟩
theorem sur_some {c : Nat → Int} {n : Nat} {F : Nat → Mk} {P : List (List UInt8)} {a b : Int} (h : vmB c n F = true) (hr : rngB n a b = true) (hl : (allO c n F P).isEmpty = false) : surB c n F P a b = suB (allO c n F P) a.toNat b.toNat ∧ surE c n F P a b = 0 := by
  unfold surB surE
  rw [h, hr, hl, if_pos rfl, if_pos rfl, if_neg (by decide)]
  exact ⟨rfl, rfl⟩
theorem vmB_setU (c : Nat → Int) (n : Nat) (F : Nat → Mk) (G : Nat → Value) : vmB c n (setV F G) = vmB c n F := rfl
theorem surB_set (c : Nat → Int) (n : Nat) (F : Nat → Mk) (G : Nat → Value) (P : List (List UInt8)) (a b : Int) : surB c n (setV F G) P a b = surB c n F P a b := by
  unfold surB
  rw [allO_set, vmB_setU]
theorem surE_set (c : Nat → Int) (n : Nat) (F : Nat → Mk) (G : Nat → Value) (P : List (List UInt8)) (a b : Int) : surE c n (setV F G) P a b = surE c n F P a b := by
  unfold surE
  rw [allO_set, vmB_setU]
set_option maxHeartbeats 8000000 in
theorem sSurelyBefore_any (c : Nat → Int) (hfc : FitSheet c) (v : Value) (n q : Nat) (F : Nat → Mk) (hn : n ≤ 1048576) (hF : ∀ k, k < n → MkIn (F k) ∧ (F k).n ≤ 1048576) (pv : Value) (bp : Nat) (P : List (List UInt8)) (hP : P.length ≤ 1048576) (a b : Int) (w : World) (h : OwnM w q v n F) (hpv : OwnT w bp pv P) :
    Calls Tryz.prog 16 #[.agg (kc sk 266 c), v, pv, .int .i64 a, .int .i64 b] w fun e w' => e = .returned (.tuple #[.bool (surB c n F P a b), .int .i64 (surE c n F P a b)]) ∧ Below w.heap.size w w' := by
  have HX0 := fun p w h1 h2 h3 => l06Marks_any p c hfc v n q F hn hF w h1 h2 h3
  have HH := Lib.hid h
  have HPV := Lib.hid hpv
  have hw1 : IntKind.i64.wrap ((n : Int) - 1) = (n : Int) - 1 := IntWalk.i64_in _ (by omega)
  obtain ⟨am, cm, rfl⟩ := h.1.len
  rcases Bool.eq_false_or_eq_true (vmB c n F) with hv | hv
  case inr =>
    rw [hv] at HX0
    rw [(sur_bad P a b hv).1, (sur_bad P a b hv).2]
    have HX := Lib.hid HX0
    clear h hpv hF hv HX0
    go_enter Tryz.func16, Tryz.ntmps16
    go_wp2_with (go_at_call 28; refine (HX.out w.heap.size _ (by (go_simp <;> (intros; omega))) (by first | omega | (simp <;> omega)) (HH.out.below (by repeat' (first | with_reducible exact Below.refl _ _ | with_reducible assumption | with_reducible refine Below.drew ?_ | with_reducible refine Below.drewN ?_ _ | with_reducible refine Below.alloc ?_ ?_ _ | with_reducible refine Below.setCell ?_ ?_ _ | with_reducible refine Below.setRow ?_ ?_ _ | with_reducible refine below_step (by assumption) ?_ ?_ | (show (_ : Nat) ≤ _; first | omega | (simp <;> omega)))) (Nat.le_refl _))).mono ?_; rintro e w1 ⟨rfl, hb1⟩; have r1 := keep_rowA hb1; have f1 := keep_frA hb1; have s1 := hb1.size; (try simp only [World.size_alloc, World.size_setCell, setRow_size, World.size_drew, size_drewNm] at r1 f1 s1))
    refine bodyPost_ret (v := (.tuple #[.bool false, .int .i64 1])) (res_tt rfl rfl rfl) rfl ⟨rfl, by repeat' (first | with_reducible exact Below.refl _ _ | with_reducible assumption | with_reducible refine Below.drew ?_ | with_reducible refine Below.drewN ?_ _ | with_reducible refine Below.alloc ?_ ?_ _ | with_reducible refine Below.setCell ?_ ?_ _ | with_reducible refine Below.setRow ?_ ?_ _ | with_reducible refine below_step (by assumption) ?_ ?_ | (show (_ : Nat) ≤ _; first | omega | (simp <;> omega)))⟩
  obtain ⟨hok, h6, hlay⟩ := vm_lay hv
  rw [hv] at HX0
  have HX := Lib.hid HX0
  have HRN := Lib.hid (fun hr => sur_rng (n := n) (F := F) P (a := a) (b := b) hv hr)
  have HNO := Lib.hid (fun hr hl => sur_none (n := n) (F := F) (P := P) (a := a) (b := b) hv hr hl)
  have HSO := Lib.hid (fun hr hl => sur_some (n := n) (F := F) (P := P) (a := a) (b := b) hv hr hl)
  have HA0 := fun w => l00In_any a 0 ((n : Int) - 1) w
  have HB0 := fun w => l00In_any b 0 ((n : Int) - 1) w
  have HL := Lib.hid (fun p lv bl w h1 h2 h3 h4 h5 => sAll_any p c hfc hok (.slice am n cm) n q F h6 hlay pv bp P hP lv bl 0 w (Nat.zero_le _) (Nat.zero_le _) h1 h2 h3 h4 h5)
  have HLN := Lib.hid (fun (m : List Nat) (h : m ∈ allO c n F P) => (allO_len h).1)
  have HFW := Lib.hid (allO_few (c := c) (F := F) (P := P) h6)
  have HIN := Lib.hid (fun (x : Int) (h : inB x 0 ((n : Int) - 1) = true) => inB_true.1 h)
  clear h hpv hF hv hok hlay HX0
  have hrE : rngB n a b = (inB a 0 ((n : Int) - 1) && (inB b 0 ((n : Int) - 1) && !(a == b))) := rfl
  rcases Bool.eq_false_or_eq_true (inB a 0 ((n : Int) - 1)) with hA | hA
  case inr =>
    rw [hA] at HA0
    rw [hA] at hrE
    rw [(HRN.out hrE).1, (HRN.out hrE).2]
    have HA := Lib.hid HA0
    clear HA0 HB0 hA hrE
    go_enter Tryz.func16, Tryz.ntmps16
    go_wp2_with (first | (go_at_call 28; refine (HX.out w.heap.size _ (by (go_simp <;> (intros; omega))) (by first | omega | (simp <;> omega)) (HH.out.below (by repeat' (first | with_reducible exact Below.refl _ _ | with_reducible assumption | with_reducible refine Below.drew ?_ | with_reducible refine Below.drewN ?_ _ | with_reducible refine Below.alloc ?_ ?_ _ | with_reducible refine Below.setCell ?_ ?_ _ | with_reducible refine Below.setRow ?_ ?_ _ | with_reducible refine below_step (by assumption) ?_ ?_ | (show (_ : Nat) ≤ _; first | omega | (simp <;> omega)))) (Nat.le_refl _))).mono ?_; rintro e w1 ⟨rfl, hb1⟩; have r1 := keep_rowA hb1; have f1 := keep_frA hb1; have s1 := hb1.size; (try simp only [World.size_alloc, World.size_setCell, setRow_size, World.size_drew, size_drewNm] at r1 f1 s1)) | (go_at_call 38; refine (HA.out _).mono ?_; rintro e w2 ⟨rfl, rfl⟩))
    refine bodyPost_ret (v := (.tuple #[.bool false, .int .i64 2])) (res_tt rfl rfl rfl) rfl ⟨rfl, by repeat' (first | with_reducible exact Below.refl _ _ | with_reducible assumption | with_reducible refine Below.drew ?_ | with_reducible refine Below.drewN ?_ _ | with_reducible refine Below.alloc ?_ ?_ _ | with_reducible refine Below.setCell ?_ ?_ _ | with_reducible refine Below.setRow ?_ ?_ _ | with_reducible refine below_step (by assumption) ?_ ?_ | (show (_ : Nat) ≤ _; first | omega | (simp <;> omega)))⟩
  rw [hA] at HA0
  have HA := Lib.hid HA0
  rw [hA, Bool.true_and] at hrE
  have hA' := HIN.out a hA
  clear HA0 hA
  rcases Bool.eq_false_or_eq_true (inB b 0 ((n : Int) - 1)) with hB | hB
  case inr =>
    rw [hB] at HB0
    rw [hB] at hrE
    rw [(HRN.out hrE).1, (HRN.out hrE).2]
    have HB := Lib.hid HB0
    clear HB0 hB hrE
    go_enter Tryz.func16, Tryz.ntmps16
    go_wp2_with (first | (go_at_call 28; refine (HX.out w.heap.size _ (by (go_simp <;> (intros; omega))) (by first | omega | (simp <;> omega)) (HH.out.below (by repeat' (first | with_reducible exact Below.refl _ _ | with_reducible assumption | with_reducible refine Below.drew ?_ | with_reducible refine Below.drewN ?_ _ | with_reducible refine Below.alloc ?_ ?_ _ | with_reducible refine Below.setCell ?_ ?_ _ | with_reducible refine Below.setRow ?_ ?_ _ | with_reducible refine below_step (by assumption) ?_ ?_ | (show (_ : Nat) ≤ _; first | omega | (simp <;> omega)))) (Nat.le_refl _))).mono ?_; rintro e w1 ⟨rfl, hb1⟩; have r1 := keep_rowA hb1; have f1 := keep_frA hb1; have s1 := hb1.size; (try simp only [World.size_alloc, World.size_setCell, setRow_size, World.size_drew, size_drewNm] at r1 f1 s1)) | (go_at_call 38; (with_reducible refine (HA.out _).mono ?_); rintro e w2 ⟨rfl, rfl⟩) | (go_at_call 38; (with_reducible refine (HB.out _).mono ?_); rintro e w2 ⟨rfl, rfl⟩))
    refine bodyPost_ret (v := (.tuple #[.bool false, .int .i64 2])) (res_tt rfl rfl rfl) rfl ⟨rfl, by repeat' (first | with_reducible exact Below.refl _ _ | with_reducible assumption | with_reducible refine Below.drew ?_ | with_reducible refine Below.drewN ?_ _ | with_reducible refine Below.alloc ?_ ?_ _ | with_reducible refine Below.setCell ?_ ?_ _ | with_reducible refine Below.setRow ?_ ?_ _ | with_reducible refine below_step (by assumption) ?_ ?_ | (show (_ : Nat) ≤ _; first | omega | (simp <;> omega)))⟩
  rw [hB] at HB0
  have HB := Lib.hid HB0
  rw [hB, Bool.true_and] at hrE
  have hB' := HIN.out b hB
  clear HB0 hB
  by_cases hab : a = b
  · subst hab
    have hrE2 : rngB n a a = false := by rw [hrE]; simp
    rw [(HRN.out hrE2).1, (HRN.out hrE2).2]
    clear hrE hrE2
    go_enter Tryz.func16, Tryz.ntmps16
    go_wp2_with (first | (go_at_call 28; refine (HX.out w.heap.size _ (by (go_simp <;> (intros; omega))) (by first | omega | (simp <;> omega)) (HH.out.below (by repeat' (first | with_reducible exact Below.refl _ _ | with_reducible assumption | with_reducible refine Below.drew ?_ | with_reducible refine Below.drewN ?_ _ | with_reducible refine Below.alloc ?_ ?_ _ | with_reducible refine Below.setCell ?_ ?_ _ | with_reducible refine Below.setRow ?_ ?_ _ | with_reducible refine below_step (by assumption) ?_ ?_ | (show (_ : Nat) ≤ _; first | omega | (simp <;> omega)))) (Nat.le_refl _))).mono ?_; rintro e w1 ⟨rfl, hb1⟩; have r1 := keep_rowA hb1; have f1 := keep_frA hb1; have s1 := hb1.size; (try simp only [World.size_alloc, World.size_setCell, setRow_size, World.size_drew, size_drewNm] at r1 f1 s1)) | (go_at_call 38; (with_reducible refine (HA.out _).mono ?_); rintro e w2 ⟨rfl, rfl⟩))
    refine bodyPost_ret (v := (.tuple #[.bool false, .int .i64 2])) (res_tt rfl rfl rfl) rfl ⟨rfl, by repeat' (first | with_reducible exact Below.refl _ _ | with_reducible assumption | with_reducible refine Below.drew ?_ | with_reducible refine Below.drewN ?_ _ | with_reducible refine Below.alloc ?_ ?_ _ | with_reducible refine Below.setCell ?_ ?_ _ | with_reducible refine Below.setRow ?_ ?_ _ | with_reducible refine below_step (by assumption) ?_ ?_ | (show (_ : Nat) ≤ _; first | omega | (simp <;> omega)))⟩
  have hab1 : (a == b) = false := by rw [beq_eq_false_iff_ne]; exact hab
  have hrE2 : rngB n a b = true := by rw [hrE, hab1]; rfl
  clear hrE
  obtain ⟨x, rfl⟩ : ∃ x : Nat, a = x := ⟨a.toNat, by omega⟩
  obtain ⟨y, rfl⟩ : ∃ y : Nat, b = y := ⟨b.toNat, by omega⟩
  have hxy : ¬ x = y := fun e => hab (by rw [e])
  rcases hLL : allO c n F P with _ | ⟨l0, L'⟩
  · rw [(HNO.out hrE2 hLL).1, (HNO.out hrE2 hLL).2]
    rw [hLL] at HL
    clear hLL hrE2
    go_enter Tryz.func16, Tryz.ntmps16
    go_wp2_with (first | (go_at_call 28; refine (HX.out w.heap.size _ (by (go_simp <;> (intros; omega))) (by first | omega | (simp <;> omega)) (HH.out.below (by repeat' (first | with_reducible exact Below.refl _ _ | with_reducible assumption | with_reducible refine Below.drew ?_ | with_reducible refine Below.drewN ?_ _ | with_reducible refine Below.alloc ?_ ?_ _ | with_reducible refine Below.setCell ?_ ?_ _ | with_reducible refine Below.setRow ?_ ?_ _ | with_reducible refine below_step (by assumption) ?_ ?_ | (show (_ : Nat) ≤ _; first | omega | (simp <;> omega)))) (Nat.le_refl _))).mono ?_; rintro e w1 ⟨rfl, hb1⟩; have r1 := keep_rowA hb1; have f1 := keep_frA hb1; have s1 := hb1.size; (try simp only [World.size_alloc, World.size_setCell, setRow_size, World.size_drew, size_drewNm] at r1 f1 s1)) | (go_at_call 38; (with_reducible refine (HA.out _).mono ?_); rintro e w2 ⟨rfl, rfl⟩) | (go_at_call 38; (with_reducible refine (HB.out _).mono ?_); rintro e w2 ⟨rfl, rfl⟩) | (go_at_call 29; refine (HL.out w.heap.size _ w1.heap.size _ (by (go_simp <;> (intros; omega))) (by first | omega | (simp <;> omega)) (HH.out.below (by repeat' (first | with_reducible exact Below.refl _ _ | with_reducible assumption | with_reducible refine Below.drew ?_ | with_reducible refine Below.drewN ?_ _ | with_reducible refine Below.alloc ?_ ?_ _ | with_reducible refine Below.setCell ?_ ?_ _ | with_reducible refine Below.setRow ?_ ?_ _ | with_reducible refine below_step (by assumption) ?_ ?_ | (show (_ : Nat) ≤ _; first | omega | (simp <;> omega)))) (Nat.le_refl _)) (HPV.out.below (by repeat' (first | with_reducible exact Below.refl _ _ | with_reducible assumption | with_reducible refine Below.drew ?_ | with_reducible refine Below.drewN ?_ _ | with_reducible refine Below.alloc ?_ ?_ _ | with_reducible refine Below.setCell ?_ ?_ _ | with_reducible refine Below.setRow ?_ ?_ _ | with_reducible refine below_step (by assumption) ?_ ?_ | (show (_ : Nat) ≤ _; first | omega | (simp <;> omega)))) (Nat.le_refl _)) (own_empty_i64 _ _)).mono ?_; rintro e w3 ⟨v3, rfl, hall, hb3⟩; obtain ⟨ar, cr, rfl⟩ := hall.len; clear hall; have r_hb3 := keep_rowA hb3; have f_hb3 := keep_frA hb3; have s_hb3 := hb3.size; (try simp only [World.size_alloc, World.size_setCell, setRow_size, World.size_drew, size_drewNm] at r_hb3 f_hb3 s_hb3)))
    refine bodyPost_ret (v := (.tuple #[.bool false, .int .i64 6])) (res_tt rfl rfl rfl) rfl ⟨rfl, by repeat' (first | with_reducible exact Below.refl _ _ | with_reducible assumption | with_reducible refine Below.drew ?_ | with_reducible refine Below.drewN ?_ _ | with_reducible refine Below.alloc ?_ ?_ _ | with_reducible refine Below.setCell ?_ ?_ _ | with_reducible refine Below.setRow ?_ ?_ _ | with_reducible refine below_step (by assumption) ?_ ?_ | (show (_ : Nat) ≤ _; first | omega | (simp <;> omega)))⟩
  · have hne : (allO c n F P).isEmpty = false := by rw [hLL]; rfl
    rw [(HSO.out hrE2 hne).1, (HSO.out hrE2 hne).2]
    have hL0 : 0 < (allO c n F P).length := by rw [hLL]; simp
    have hLF := HFW.out
    rw [Int.toNat_natCast, Int.toNat_natCast]
    clear hLL hne hrE2
    generalize allO c n F P = L at *
    have hl0 : ((L.length : Int) == 0) = false := by rw [beq_eq_false_iff_ne]; omega
    have hl1 : ¬ (L.length : Int) = 0 := by omega
    go_enter Tryz.func16, Tryz.ntmps16
    go_wp2_with (first | (go_at_call 28; refine (HX.out w.heap.size _ (by (go_simp <;> (intros; omega))) (by first | omega | (simp <;> omega)) (HH.out.below (by repeat' (first | with_reducible exact Below.refl _ _ | with_reducible assumption | with_reducible refine Below.drew ?_ | with_reducible refine Below.drewN ?_ _ | with_reducible refine Below.alloc ?_ ?_ _ | with_reducible refine Below.setCell ?_ ?_ _ | with_reducible refine Below.setRow ?_ ?_ _ | with_reducible refine below_step (by assumption) ?_ ?_ | (show (_ : Nat) ≤ _; first | omega | (simp <;> omega)))) (Nat.le_refl _))).mono ?_; rintro e w1 ⟨rfl, hb1⟩; have r1 := keep_rowA hb1; have f1 := keep_frA hb1; have s1 := hb1.size; (try simp only [World.size_alloc, World.size_setCell, setRow_size, World.size_drew, size_drewNm] at r1 f1 s1)) | (go_at_call 38; (with_reducible refine (HA.out _).mono ?_); rintro e w2 ⟨rfl, rfl⟩) | (go_at_call 38; (with_reducible refine (HB.out _).mono ?_); rintro e w2 ⟨rfl, rfl⟩) | (go_at_call 29; refine (HL.out w.heap.size _ w1.heap.size _ (by (go_simp <;> (intros; omega))) (by first | omega | (simp <;> omega)) (HH.out.below (by repeat' (first | with_reducible exact Below.refl _ _ | with_reducible assumption | with_reducible refine Below.drew ?_ | with_reducible refine Below.drewN ?_ _ | with_reducible refine Below.alloc ?_ ?_ _ | with_reducible refine Below.setCell ?_ ?_ _ | with_reducible refine Below.setRow ?_ ?_ _ | with_reducible refine below_step (by assumption) ?_ ?_ | (show (_ : Nat) ≤ _; first | omega | (simp <;> omega)))) (Nat.le_refl _)) (HPV.out.below (by repeat' (first | with_reducible exact Below.refl _ _ | with_reducible assumption | with_reducible refine Below.drew ?_ | with_reducible refine Below.drewN ?_ _ | with_reducible refine Below.alloc ?_ ?_ _ | with_reducible refine Below.setCell ?_ ?_ _ | with_reducible refine Below.setRow ?_ ?_ _ | with_reducible refine below_step (by assumption) ?_ ?_ | (show (_ : Nat) ≤ _; first | omega | (simp <;> omega)))) (Nat.le_refl _)) (own_empty_i64 _ _)).mono ?_; rintro e w3 ⟨v3, rfl, hall, hb3⟩; obtain ⟨g, cr, rfl, hg, hgs, hcs⟩ := hall.at hL0; have HCS := Lib.hid hcs; clear hall hcs; have r_hb3 := keep_rowA hb3; have f_hb3 := keep_frA hb3; have s_hb3 := hb3.size; (try simp only [World.size_alloc, World.size_setCell, setRow_size, World.size_drew, size_drewNm] at r_hb3 f_hb3 s_hb3)))
    have hb33 : Below w.heap.size w w3 := by repeat' (first | with_reducible exact Below.refl _ _ | with_reducible assumption | with_reducible refine Below.drew ?_ | with_reducible refine Below.drewN ?_ _ | with_reducible refine Below.alloc ?_ ?_ _ | with_reducible refine Below.setCell ?_ ?_ _ | with_reducible refine Below.setRow ?_ ?_ _ | with_reducible refine below_step (by assumption) ?_ ?_ | (show (_ : Nat) ≤ _; first | omega | (simp <;> omega)))
    go_loopw [14] (fun i wr => ∃ k : Nat, k ≤ L.length ∧ i = .int .i64 k ∧ Below w3.heap.size w3 wr ∧ ∀ j m, j < k → L[j]? = some m → behB x y m = false) (fun i wr => L.length + 1 - (intOf i).toNat)
    case atStart => exact ⟨0, by omega, rfl, by repeat' (first | with_reducible exact Below.refl _ _ | with_reducible assumption | with_reducible refine Below.drew ?_ | with_reducible refine Below.drewN ?_ _ | with_reducible refine Below.alloc ?_ ?_ _ | with_reducible refine Below.setCell ?_ ?_ _ | with_reducible refine Below.setRow ?_ ?_ _ | with_reducible refine below_step (by assumption) ?_ ?_ | (show (_ : Nat) ≤ _; first | omega | (simp <;> omega))), fun j m hj => absurd hj (by omega)⟩
    case round =>
      obtain ⟨k, hk, rfl, hb, hno⟩ := hrel
      have HNO2 := Lib.hid hno
      have hszb := hb.size
      clear hno
      by_cases hlt : k < L.length
      · obtain ⟨m, hm⟩ : ∃ m, L[k]? = some m := ⟨_, List.getElem?_eq_getElem hlt⟩
        obtain ⟨ev, hce, hok⟩ := HCS.out k m hm
        have hm20 : m.length ≤ 1048576 := by have := HLN.out m (List.mem_of_getElem? hm); omega
        obtain ⟨ae, ce, rfl⟩ := hok.len
        have HOK := Lib.hid (hok.below hb (Nat.le_refl _))
        rw [← keep_row hb hg] at hce
        have hgw : g < wr.heap.size := by omega
        have hRs : L.length ≤ (rowOf wr g).size := by rw [keep_row hb hg]; exact hgs
        have hlt2 : (k : Int) < (L.length : Int) := by omega
        have hw2 : IntKind.i64.wrap ((k : Int) + 1) = ((k + 1 : Nat) : Int) := by rw [IntWalk.i64_in _ (by omega)]; rfl
        have HQX := Lib.hid (fun w h => l06Place_q (.slice ae m.length ce) 0 m hm20 x w h)
        have HQY := Lib.hid (fun w h => l06Place_q (.slice ae m.length ce) 0 m hm20 y w h)
        have hbe : behB x y m = decide (ixL m y < ixL m x) := rfl
        have HOQ := Lib.hid (fun n => HOK.out.below (belowQ wr n) (Nat.le_refl _))
        clear hok
        by_cases hc : ixL m y < ixL m x
        · have HV := Lib.hid (su_no hm (hbe.trans (decide_eq_true hc)))
          clear hbe hm
          generalize ixL m x = zx at *
          generalize ixL m y = zy at *
          go_wp2
          go_quiet ((go_at_call 39; first | (with_reducible exact Calls.quiet_of_same (HQX.out _ (HOQ.out _))) | (with_reducible exact Calls.quiet_of_same (HQY.out _ (HOQ.out _)))))
          go_wp2
          rw [HV.out]
          refine bodyPost_ret (v := (.tuple #[.bool false, .int .i64 0])) (res_tt rfl rfl rfl) rfl ⟨rfl, by repeat' (first | with_reducible exact Below.refl _ _ | with_reducible assumption | with_reducible refine Below.drew ?_ | with_reducible refine Below.drewN ?_ _ | with_reducible refine Below.alloc ?_ ?_ _ | with_reducible refine Below.setCell ?_ ?_ _ | with_reducible refine Below.setRow ?_ ?_ _ | with_reducible refine below_step (by assumption) ?_ ?_ | (show (_ : Nat) ≤ _; first | omega | (simp <;> omega)))⟩
        · have HN := Lib.hid (show ∀ j m, j < k + 1 → L[j]? = some m → behB x y m = false from fun j m' hj hm' => by
            rcases Nat.lt_succ_iff_lt_or_eq.1 hj with h | rfl
            · exact HNO2.out j m' h hm'
            · rw [hm] at hm'
              obtain rfl := Option.some.inj hm'
              exact hbe.trans (decide_eq_false hc))
          clear hbe hm
          generalize ixL m x = zx at *
          generalize ixL m y = zy at *
          go_wp2
          go_quiet ((go_at_call 39; first | (with_reducible exact Calls.quiet_of_same (HQX.out _ (HOQ.out _))) | (with_reducible exact Calls.quiet_of_same (HQY.out _ (HOQ.out _)))))
          go_wp2
          go_roundw
          case rel => first | exact ⟨k + 1, by omega, by go_num, by repeat' (first | with_reducible exact Below.refl _ _ | with_reducible assumption | with_reducible refine Below.drew ?_ | with_reducible refine Below.drewN ?_ _ | with_reducible refine Below.alloc ?_ ?_ _ | with_reducible refine Below.setCell ?_ ?_ _ | with_reducible refine Below.setRow ?_ ?_ _ | with_reducible refine below_step (by assumption) ?_ ?_ | (show (_ : Nat) ≤ _; first | omega | (simp <;> omega))), HN.out⟩ | ((repeat (with_reducible apply Exists.intro)); refine And.intro ?_ ?_; rotate_left; (focus ((repeat' (with_reducible apply And.intro)) <;> rfl)); exact ⟨k + 1, by omega, by go_num, by repeat' (first | with_reducible exact Below.refl _ _ | with_reducible assumption | with_reducible refine Below.drew ?_ | with_reducible refine Below.drewN ?_ _ | with_reducible refine Below.alloc ?_ ?_ _ | with_reducible refine Below.setCell ?_ ?_ _ | with_reducible refine Below.setRow ?_ ?_ _ | with_reducible refine below_step (by assumption) ?_ ?_ | (show (_ : Nat) ≤ _; first | omega | (simp <;> omega))), HN.out⟩)
          case measure => simp [intOf]; omega
      · have hke : k = L.length := by omega
        subst hke
        have HV := Lib.hid (su_yes (fun j m hj hm => HNO2.out j m hj hm))
        go_wp2
        rw [HV.out]
        refine bodyPost_ret (v := (.tuple #[.bool true, .int .i64 0])) (res_tt rfl rfl rfl) rfl ⟨rfl, by repeat' (first | with_reducible exact Below.refl _ _ | with_reducible assumption | with_reducible refine Below.drew ?_ | with_reducible refine Below.drewN ?_ _ | with_reducible refine Below.alloc ?_ ?_ _ | with_reducible refine Below.setCell ?_ ?_ _ | with_reducible refine Below.setRow ?_ ?_ _ | with_reducible refine below_step (by assumption) ?_ ?_ | (show (_ : Nat) ≤ _; first | omega | (simp <;> omega)))⟩
theorem size_q (a : Option Addr) (n cap : Nat) (w : World) : Calls Tryz.prog 41 #[.slice a n cap] w fun e w' => e = .returned (.int .i64 (n : Int)) ∧ w' = w := by
  go_enter Tryz.func41, Tryz.ntmps41
  go_wp2
  go_ret
  exact ⟨rfl, rfl⟩
theorem within_q (n lo hi : Int) (w : World) : Calls Tryz.prog 40 #[.int .i64 n, .int .i64 lo, .int .i64 hi] w fun e w' => e = .returned (.bool (inB n lo hi)) ∧ w' = w := (within_any n lo hi w).mono fun _ _ ⟨h1, h2⟩ => ⟨h1, h2.symm⟩
set_option maxHeartbeats 4000000 in
theorem sur1_any (qa qb x y : Nat) (ev : Value) (bb : Nat) (m : List Nat) (hm : m.length ≤ 1048576) (w : World) (ha : rowOf w qa = #[.int .i64 (x : Int)]) (hqa : qa < w.heap.size) (hb : rowOf w qb = #[.int .i64 (y : Int)]) (hqb : qb < w.heap.size) (h : OwnK .i64 1 w bb ev m.length (nl m)) :
    Calls Tryz.prog 43 #[ev, .pointer (some ⟨qa, 0, none⟩), .pointer (some ⟨qb, 0, none⟩)] w fun e w' => e = .returned (.bool (behB x y m)) ∧ Below w.heap.size w w' := by
  have HH := Lib.hid h
  obtain ⟨ae, ce, rfl⟩ := h.len
  have HQX := Lib.hid (fun w h => index_q (.slice ae m.length ce) bb m hm x w h)
  have HQY := Lib.hid (fun w h => index_q (.slice ae m.length ce) bb m hm y w h)
  have HBE := Lib.hid (show behB x y m = decide (ixL m y < ixL m x) from rfl)
  have HOQ := Lib.hid (fun n => HH.out.below (belowQ w n) (Nat.le_refl _))
  clear h
  generalize ixL m x = zx at *
  generalize ixL m y = zy at *
  go_enter Tryz.func43, Tryz.ntmps43
  go_wp2
  go_quiet ((go_at_call 44; first | (with_reducible exact Calls.quiet_of_same (HQX.out _ (HOQ.out _))) | (with_reducible exact Calls.quiet_of_same (HQY.out _ (HOQ.out _)))))
  go_wp2
  go_ret
  exact ⟨by rw [HBE.out]; rfl, by repeat' (first | with_reducible exact Below.refl _ _ | with_reducible assumption | with_reducible refine Below.drew ?_ | with_reducible refine Below.drewN ?_ _ | with_reducible refine Below.alloc ?_ ?_ _ | with_reducible refine Below.setCell ?_ ?_ _ | with_reducible refine Below.setRow ?_ ?_ _ | with_reducible refine below_step (by assumption) ?_ ?_ | (show (_ : Nat) ≤ _; first | omega | (simp <;> omega)))⟩
set_option maxHeartbeats 4000000 in
theorem surAt_any (w0 : World) (L : List (List Nat)) (hL : L.length ≤ 1048576) (n : Nat) (hn : n ≤ 1048576) (hm : ∀ m ∈ L, m.length = n) (qa qb x y : Nat) (v : Value) (w : World) (ha : rowOf w qa = #[.int .i64 (x : Int)]) (hqa : qa < w.heap.size) (hb : rowOf w qb = #[.int .i64 (y : Int)]) (hqb : qb < w.heap.size) (h : AllW w0 w 0 v L) :
    Calls Tryz.prog 72 #[v, .func (.func 43) #[] #[.pointer (some ⟨qa, 0, none⟩), .pointer (some ⟨qb, 0, none⟩)]] w fun e w' => ∃ r : Int, e = .returned (.int .i64 r) ∧ decide (0 ≤ r) = L.any (behB x y) ∧ -1 ≤ r ∧ r ≤ L.length ∧ Below w.heap.size w w' := by
  have HH := Lib.hid h
  obtain ⟨a, cap, rfl⟩ := h.len
  have HM := Lib.hid hm
  clear h hm
  go_enter Tryz.func72, Tryz.ntmps72
  go_wp2
  go_loopw [8] (fun i wr => ∃ k : Nat, k ≤ L.length ∧ i = .int .i64 k ∧ Below w.heap.size w wr ∧ ∀ j m, j < k → L[j]? = some m → behB x y m = false) (fun i wr => L.length + 1 - (intOf i).toNat)
  case atStart => exact ⟨0, by omega, rfl, by repeat' (first | with_reducible exact Below.refl _ _ | with_reducible assumption | with_reducible refine Below.drew ?_ | with_reducible refine Below.drewN ?_ _ | with_reducible refine Below.alloc ?_ ?_ _ | with_reducible refine Below.setCell ?_ ?_ _ | with_reducible refine Below.setRow ?_ ?_ _ | with_reducible refine below_step (by assumption) ?_ ?_ | (show (_ : Nat) ≤ _; first | omega | (simp <;> omega))), fun j m h1 => by omega⟩
  case round =>
    obtain ⟨k, hk1, rfl, hbw, hin⟩ := hrel
    have hsz := hbw.size
    have HIN := Lib.hid hin
    clear hin
    by_cases hlt : k < L.length
    · obtain ⟨g, cr, hv, hg, hgs, hcs⟩ := HH.out.at (by omega)
      simp only [Value.slice.injEq] at hv
      obtain ⟨rfl, -, rfl⟩ := hv
      obtain ⟨m, hm⟩ : ∃ m, L[k]? = some m := ⟨_, List.getElem?_eq_getElem hlt⟩
      obtain ⟨ev, hce, hok⟩ := hcs k m hm
      have hm20 : m.length ≤ 1048576 := by have := HM.out m (List.mem_of_getElem? hm); omega
      have HOK := Lib.hid (hok.below hbw (Nat.le_refl _))
      obtain ⟨ae, ce, rfl⟩ := hok.len
      rw [← keep_row hbw hg] at hce
      have hgw : g < wr.heap.size := by omega
      have hlt2 : (k : Int) < (L.length : Int) := by omega
      have hw1 : IntKind.i64.wrap ((k : Int) + 1) = ((k + 1 : Nat) : Int) := by rw [IntWalk.i64_in _ (by omega)]; rfl
      have hra := (keep_row hbw hqa).trans ha
      have hrb := (keep_row hbw hqb).trans hb
      have hqa2 : qa < wr.heap.size := by omega
      have hqb2 : qb < wr.heap.size := by omega
      have hOS := fun w2 h1 h2 h3 h4 h5 => sur1_any qa qb x y (.slice ae m.length ce) 0 m hm20 w2 h1 h2 h3 h4 h5
      clear hok hcs
      rcases Bool.eq_false_or_eq_true (behB x y m) with hs | hs
      · have HN := Lib.hid (show L.any (behB x y) = true from List.any_eq_true.2 ⟨m, List.mem_of_getElem? hm, hs⟩)
        rw [hs] at hOS
        have HOS := Lib.hid hOS
        clear hOS hs hm
        go_wp2_with ((go_at_call 43; refine (HOS.out _ (by (go_simp <;> (intros; omega))) (by first | omega | (simp <;> omega)) (by (go_simp <;> (intros; omega))) (by first | omega | (simp <;> omega)) (HOK.out.below (by repeat' (first | with_reducible exact Below.refl _ _ | with_reducible assumption | with_reducible refine Below.drew ?_ | with_reducible refine Below.drewN ?_ _ | with_reducible refine Below.alloc ?_ ?_ _ | with_reducible refine Below.setCell ?_ ?_ _ | with_reducible refine Below.setRow ?_ ?_ _ | with_reducible refine below_step (by assumption) ?_ ?_ | (show (_ : Nat) ≤ _; first | omega | (simp <;> omega)))) (Nat.le_refl _))).mono ?_; rintro e w1 ⟨rfl, hb1⟩; have r1 := keep_rowA hb1; have f1 := keep_frA hb1; have s1 := hb1.size; (try simp only [World.size_alloc, World.size_setCell, setRow_size, World.size_drew, size_drewNm] at r1 f1 s1)))
        go_ret
        exact ⟨k, rfl, by rw [HN.out]; exact decide_eq_true (by omega), by omega, by omega, by repeat' (first | with_reducible exact Below.refl _ _ | with_reducible assumption | with_reducible refine Below.drew ?_ | with_reducible refine Below.drewN ?_ _ | with_reducible refine Below.alloc ?_ ?_ _ | with_reducible refine Below.setCell ?_ ?_ _ | with_reducible refine Below.setRow ?_ ?_ _ | with_reducible refine below_step (by assumption) ?_ ?_ | (show (_ : Nat) ≤ _; first | omega | (simp <;> omega)))⟩
      · have HN := Lib.hid (show ∀ j m, j < k + 1 → L[j]? = some m → behB x y m = false from fun j m' hj hm' => by
          rcases Nat.lt_succ_iff_lt_or_eq.1 hj with h | rfl
          · exact HIN.out j m' h hm'
          · rw [hm] at hm'
            obtain rfl := Option.some.inj hm'
            exact hs)
        rw [hs] at hOS
        have HOS := Lib.hid hOS
        clear hOS hs hm
        go_wp2_with ((go_at_call 43; refine (HOS.out _ (by (go_simp <;> (intros; omega))) (by first | omega | (simp <;> omega)) (by (go_simp <;> (intros; omega))) (by first | omega | (simp <;> omega)) (HOK.out.below (by repeat' (first | with_reducible exact Below.refl _ _ | with_reducible assumption | with_reducible refine Below.drew ?_ | with_reducible refine Below.drewN ?_ _ | with_reducible refine Below.alloc ?_ ?_ _ | with_reducible refine Below.setCell ?_ ?_ _ | with_reducible refine Below.setRow ?_ ?_ _ | with_reducible refine below_step (by assumption) ?_ ?_ | (show (_ : Nat) ≤ _; first | omega | (simp <;> omega)))) (Nat.le_refl _))).mono ?_; rintro e w1 ⟨rfl, hb1⟩; have r1 := keep_rowA hb1; have f1 := keep_frA hb1; have s1 := hb1.size; (try simp only [World.size_alloc, World.size_setCell, setRow_size, World.size_drew, size_drewNm] at r1 f1 s1)))
        go_roundw
        case rel => first | exact ⟨k + 1, by omega, by go_num, by repeat' (first | with_reducible exact Below.refl _ _ | with_reducible assumption | with_reducible refine Below.drew ?_ | with_reducible refine Below.drewN ?_ _ | with_reducible refine Below.alloc ?_ ?_ _ | with_reducible refine Below.setCell ?_ ?_ _ | with_reducible refine Below.setRow ?_ ?_ _ | with_reducible refine below_step (by assumption) ?_ ?_ | (show (_ : Nat) ≤ _; first | omega | (simp <;> omega))), HN.out⟩ | ((repeat (with_reducible apply Exists.intro)); refine And.intro ?_ ?_; rotate_left; (focus ((repeat' (with_reducible apply And.intro)) <;> rfl)); exact ⟨k + 1, by omega, by go_num, by repeat' (first | with_reducible exact Below.refl _ _ | with_reducible assumption | with_reducible refine Below.drew ?_ | with_reducible refine Below.drewN ?_ _ | with_reducible refine Below.alloc ?_ ?_ _ | with_reducible refine Below.setCell ?_ ?_ _ | with_reducible refine Below.setRow ?_ ?_ _ | with_reducible refine below_step (by assumption) ?_ ?_ | (show (_ : Nat) ≤ _; first | omega | (simp <;> omega))), HN.out⟩)
        case measure => simp [intOf] <;> omega
    · have hke : k = L.length := by omega
      subst hke
      have HV := Lib.hid (show L.any (behB x y) = false from by
        rw [List.any_eq_false]
        intro m hm
        obtain ⟨j, hj, rfl⟩ := List.getElem_of_mem hm
        rw [HIN.out j _ hj (List.getElem?_eq_getElem hj)]; decide)
      go_wp2
      go_ret
      exact ⟨-1, rfl, by rw [HV.out]; rfl, by omega, by omega, by repeat' (first | with_reducible exact Below.refl _ _ | with_reducible assumption | with_reducible refine Below.drew ?_ | with_reducible refine Below.drewN ?_ _ | with_reducible refine Below.alloc ?_ ?_ _ | with_reducible refine Below.setCell ?_ ?_ _ | with_reducible refine Below.setRow ?_ ?_ _ | with_reducible refine below_step (by assumption) ?_ ?_ | (show (_ : Nat) ≤ _; first | omega | (simp <;> omega)))⟩
theorem surC_any (w0 : World) (L : List (List Nat)) (hL : L.length ≤ 1048576) (n : Nat) (hn : n ≤ 1048576) (hm : ∀ m ∈ L, m.length = n) (qa qb x y : Nat) (v : Value) (w : World) (ha : rowOf w qa = #[.int .i64 (x : Int)]) (hqa : qa < w.heap.size) (hb : rowOf w qb = #[.int .i64 (y : Int)]) (hqb : qb < w.heap.size) (h : AllW w0 w 0 v L) :
    Calls Tryz.prog 42 #[v, .func (.func 43) #[] #[.pointer (some ⟨qa, 0, none⟩), .pointer (some ⟨qb, 0, none⟩)]] w fun e w' => e = .returned (.bool (L.any (behB x y))) ∧ Below w.heap.size w w' := by
  have HX := Lib.hid (surAt_any w0 L hL n hn hm qa qb x y v w ha hqa hb hqb h)
  generalize L.any (behB x y) = z at *
  clear h
  go_enter Tryz.func42, Tryz.ntmps42
  go_wp2_with (go_at_call 72; refine HX.out.mono ?_; rintro e w1 ⟨k, rfl, hk, hk1, hk2, hb1⟩)
  go_ret
  exact ⟨by rw [← hk]; rfl, by repeat' (first | with_reducible exact Below.refl _ _ | with_reducible assumption | with_reducible refine Below.drew ?_ | with_reducible refine Below.drewN ?_ _ | with_reducible refine Below.alloc ?_ ?_ _ | with_reducible refine Below.setCell ?_ ?_ _ | with_reducible refine Below.setRow ?_ ?_ _ | with_reducible refine below_step (by assumption) ?_ ?_ | (show (_ : Nat) ≤ _; first | omega | (simp <;> omega)))⟩
set_option maxHeartbeats 8000000 in
theorem iSurelyBefore_any (c : Nat → Int) (hfc : FitSheet c) (v : Value) (n q : Nat) (F : Nat → Mk) (hn : n ≤ 1048576) (hF : ∀ k, k < n → MkIn (F k) ∧ (F k).n ≤ 1048576) (pv : Value) (bp : Nat) (P : List (List UInt8)) (hP : P.length ≤ 1048576) (a b : Int) (w : World) (h : OwnM w q v n F) (hpv : OwnT w bp pv P) (hmx : MxW w) :
    Calls Tryz.prog 17 #[.agg (kc sk 266 c), v, pv, .int .i64 a, .int .i64 b] w fun e w' => e = .returned (.tuple #[.bool (surB c n F P a b), .int .i64 (surE c n F P a b)]) ∧ Below w.heap.size w w' := by
  have HX0 := fun w h1 => iValidMarks_any c hfc v n q F hn hF w h1
  have HMX := Lib.hid hmx
  have HH := Lib.hid h
  have HPV := Lib.hid hpv
  have hw1 : IntKind.i64.wrap ((n : Int) - 1) = (n : Int) - 1 := IntWalk.i64_in _ (by omega)
  obtain ⟨am, cm, rfl⟩ := h.1.len
  rcases Bool.eq_false_or_eq_true (vmB c n F) with hv | hv
  case inr =>
    rw [hv] at HX0
    rw [(sur_bad P a b hv).1, (sur_bad P a b hv).2]
    have HX := Lib.hid HX0
    clear h hpv hF hv HX0
    go_enter Tryz.func17, Tryz.ntmps17
    go_wp2_with (go_at_call 34; refine (HX.out _ (HH.out.below (by repeat' (first | with_reducible exact Below.refl _ _ | with_reducible assumption | with_reducible refine Below.drew ?_ | with_reducible refine Below.drewN ?_ _ | with_reducible refine Below.alloc ?_ ?_ _ | with_reducible refine Below.setCell ?_ ?_ _ | with_reducible refine Below.setRow ?_ ?_ _ | with_reducible refine below_step (by assumption) ?_ ?_ | (show (_ : Nat) ≤ _; first | omega | (simp <;> omega)))) (Nat.le_refl _))).mono ?_; rintro e w1 ⟨rfl, hb1⟩; have r1 := keep_rowA hb1; have f1 := keep_frA hb1; have s1 := hb1.size; (try simp only [World.size_alloc, World.size_setCell, setRow_size, World.size_drew, size_drewNm] at r1 f1 s1))
    refine bodyPost_ret (v := (.tuple #[.bool false, .int .i64 1])) (res_tt rfl rfl rfl) rfl ⟨rfl, by repeat' (first | with_reducible exact Below.refl _ _ | with_reducible assumption | with_reducible refine Below.drew ?_ | with_reducible refine Below.drewN ?_ _ | with_reducible refine Below.alloc ?_ ?_ _ | with_reducible refine Below.setCell ?_ ?_ _ | with_reducible refine Below.setRow ?_ ?_ _ | with_reducible refine below_step (by assumption) ?_ ?_ | (show (_ : Nat) ≤ _; first | omega | (simp <;> omega)))⟩
  obtain ⟨hok, h6, hlay⟩ := vm_lay hv
  rw [hv] at HX0
  have HX := Lib.hid HX0
  have HRN := Lib.hid (fun hr => sur_rng (n := n) (F := F) P (a := a) (b := b) hv hr)
  have HNO := Lib.hid (fun hr hl => sur_none (n := n) (F := F) (P := P) (a := a) (b := b) hv hr hl)
  have HSO := Lib.hid (fun hr hl => sur_some (n := n) (F := F) (P := P) (a := a) (b := b) hv hr hl)
  have HA0 := fun w => within_q a 0 ((n : Int) - 1) w
  have HB0 := fun w => within_q b 0 ((n : Int) - 1) w
  have HL := Lib.hid (fun p w h1 h2 h3 h4 h5 => iAll_any p c hfc hok (.slice am n cm) n q F h6 hlay pv bp P hP 0 w (Nat.zero_le _) h1 h2 h3 h4 h5)
  have HSZ := Lib.hid (fun w => size_q am n cm w)
  have HLN := Lib.hid (fun (m : List Nat) (h : m ∈ allO c n F P) => (allO_len h).1)
  have HFW := Lib.hid (allO_few (c := c) (F := F) (P := P) h6)
  have HIN := Lib.hid (fun (x : Int) (h : inB x 0 ((n : Int) - 1) = true) => inB_true.1 h)
  clear h hpv hF hv hok hlay HX0
  have hrE : rngB n a b = (inB a 0 ((n : Int) - 1) && (inB b 0 ((n : Int) - 1) && !(a == b))) := rfl
  rcases Bool.eq_false_or_eq_true (inB a 0 ((n : Int) - 1)) with hA | hA
  case inr =>
    rw [hA] at HA0
    rw [hA] at hrE
    rw [(HRN.out hrE).1, (HRN.out hrE).2]
    have HA := Lib.hid HA0
    clear HA0 HB0 hA hrE
    go_enter Tryz.func17, Tryz.ntmps17
    go_wp2_with (go_at_call 34; refine (HX.out _ (HH.out.below (by repeat' (first | with_reducible exact Below.refl _ _ | with_reducible assumption | with_reducible refine Below.drew ?_ | with_reducible refine Below.drewN ?_ _ | with_reducible refine Below.alloc ?_ ?_ _ | with_reducible refine Below.setCell ?_ ?_ _ | with_reducible refine Below.setRow ?_ ?_ _ | with_reducible refine below_step (by assumption) ?_ ?_ | (show (_ : Nat) ≤ _; first | omega | (simp <;> omega)))) (Nat.le_refl _))).mono ?_; rintro e w1 ⟨rfl, hb1⟩; have r1 := keep_rowA hb1; have f1 := keep_frA hb1; have s1 := hb1.size; (try simp only [World.size_alloc, World.size_setCell, setRow_size, World.size_drew, size_drewNm] at r1 f1 s1))
    go_quiet (first | (go_at_call 41; with_reducible exact Calls.quiet_of_same (HSZ.out _)) | (go_at_call 40; first | (with_reducible exact Calls.quiet_of_same (HA.out _)) | (with_reducible exact Calls.quiet_of_same (HB.out _))))
    go_wp2
    refine bodyPost_ret (v := (.tuple #[.bool false, .int .i64 2])) (res_tt rfl rfl rfl) rfl ⟨rfl, by repeat' (first | with_reducible exact Below.refl _ _ | with_reducible assumption | with_reducible refine Below.drew ?_ | with_reducible refine Below.drewN ?_ _ | with_reducible refine Below.alloc ?_ ?_ _ | with_reducible refine Below.setCell ?_ ?_ _ | with_reducible refine Below.setRow ?_ ?_ _ | with_reducible refine below_step (by assumption) ?_ ?_ | (show (_ : Nat) ≤ _; first | omega | (simp <;> omega)))⟩
  rw [hA] at HA0
  have HA := Lib.hid HA0
  rw [hA, Bool.true_and] at hrE
  have hA' := HIN.out a hA
  clear HA0 hA
  rcases Bool.eq_false_or_eq_true (inB b 0 ((n : Int) - 1)) with hB | hB
  case inr =>
    rw [hB] at HB0
    rw [hB] at hrE
    rw [(HRN.out hrE).1, (HRN.out hrE).2]
    have HB := Lib.hid HB0
    clear HB0 hB hrE
    go_enter Tryz.func17, Tryz.ntmps17
    go_wp2_with (go_at_call 34; refine (HX.out _ (HH.out.below (by repeat' (first | with_reducible exact Below.refl _ _ | with_reducible assumption | with_reducible refine Below.drew ?_ | with_reducible refine Below.drewN ?_ _ | with_reducible refine Below.alloc ?_ ?_ _ | with_reducible refine Below.setCell ?_ ?_ _ | with_reducible refine Below.setRow ?_ ?_ _ | with_reducible refine below_step (by assumption) ?_ ?_ | (show (_ : Nat) ≤ _; first | omega | (simp <;> omega)))) (Nat.le_refl _))).mono ?_; rintro e w1 ⟨rfl, hb1⟩; have r1 := keep_rowA hb1; have f1 := keep_frA hb1; have s1 := hb1.size; (try simp only [World.size_alloc, World.size_setCell, setRow_size, World.size_drew, size_drewNm] at r1 f1 s1))
    go_quiet (first | (go_at_call 41; with_reducible exact Calls.quiet_of_same (HSZ.out _)) | (go_at_call 40; first | (with_reducible exact Calls.quiet_of_same (HA.out _)) | (with_reducible exact Calls.quiet_of_same (HB.out _))))
    go_wp2
    refine bodyPost_ret (v := (.tuple #[.bool false, .int .i64 2])) (res_tt rfl rfl rfl) rfl ⟨rfl, by repeat' (first | with_reducible exact Below.refl _ _ | with_reducible assumption | with_reducible refine Below.drew ?_ | with_reducible refine Below.drewN ?_ _ | with_reducible refine Below.alloc ?_ ?_ _ | with_reducible refine Below.setCell ?_ ?_ _ | with_reducible refine Below.setRow ?_ ?_ _ | with_reducible refine below_step (by assumption) ?_ ?_ | (show (_ : Nat) ≤ _; first | omega | (simp <;> omega)))⟩
  rw [hB] at HB0
  have HB := Lib.hid HB0
  rw [hB, Bool.true_and] at hrE
  have hB' := HIN.out b hB
  clear HB0 hB
  by_cases hab : a = b
  · subst hab
    have hrE2 : rngB n a a = false := by rw [hrE]; simp
    rw [(HRN.out hrE2).1, (HRN.out hrE2).2]
    clear hrE hrE2
    go_enter Tryz.func17, Tryz.ntmps17
    go_wp2_with (go_at_call 34; refine (HX.out _ (HH.out.below (by repeat' (first | with_reducible exact Below.refl _ _ | with_reducible assumption | with_reducible refine Below.drew ?_ | with_reducible refine Below.drewN ?_ _ | with_reducible refine Below.alloc ?_ ?_ _ | with_reducible refine Below.setCell ?_ ?_ _ | with_reducible refine Below.setRow ?_ ?_ _ | with_reducible refine below_step (by assumption) ?_ ?_ | (show (_ : Nat) ≤ _; first | omega | (simp <;> omega)))) (Nat.le_refl _))).mono ?_; rintro e w1 ⟨rfl, hb1⟩; have r1 := keep_rowA hb1; have f1 := keep_frA hb1; have s1 := hb1.size; (try simp only [World.size_alloc, World.size_setCell, setRow_size, World.size_drew, size_drewNm] at r1 f1 s1))
    go_quiet (first | (go_at_call 41; with_reducible exact Calls.quiet_of_same (HSZ.out _)) | (go_at_call 40; first | (with_reducible exact Calls.quiet_of_same (HA.out _)) | (with_reducible exact Calls.quiet_of_same (HB.out _))))
    go_wp2
    refine bodyPost_ret (v := (.tuple #[.bool false, .int .i64 2])) (res_tt rfl rfl rfl) rfl ⟨rfl, by repeat' (first | with_reducible exact Below.refl _ _ | with_reducible assumption | with_reducible refine Below.drew ?_ | with_reducible refine Below.drewN ?_ _ | with_reducible refine Below.alloc ?_ ?_ _ | with_reducible refine Below.setCell ?_ ?_ _ | with_reducible refine Below.setRow ?_ ?_ _ | with_reducible refine below_step (by assumption) ?_ ?_ | (show (_ : Nat) ≤ _; first | omega | (simp <;> omega)))⟩
  have hab1 : (a == b) = false := by rw [beq_eq_false_iff_ne]; exact hab
  have hrE2 : rngB n a b = true := by rw [hrE, hab1]; rfl
  clear hrE
  obtain ⟨x, rfl⟩ : ∃ x : Nat, a = x := ⟨a.toNat, by omega⟩
  obtain ⟨y, rfl⟩ : ∃ y : Nat, b = y := ⟨b.toNat, by omega⟩
  have hxy : ¬ x = y := fun e => hab (by rw [e])
  rcases hLL : allO c n F P with _ | ⟨l0, L'⟩
  · rw [(HNO.out hrE2 hLL).1, (HNO.out hrE2 hLL).2]
    rw [hLL] at HL
    clear hLL hrE2
    go_enter Tryz.func17, Tryz.ntmps17
    go_wp2_with (go_at_call 34; refine (HX.out _ (HH.out.below (by repeat' (first | with_reducible exact Below.refl _ _ | with_reducible assumption | with_reducible refine Below.drew ?_ | with_reducible refine Below.drewN ?_ _ | with_reducible refine Below.alloc ?_ ?_ _ | with_reducible refine Below.setCell ?_ ?_ _ | with_reducible refine Below.setRow ?_ ?_ _ | with_reducible refine below_step (by assumption) ?_ ?_ | (show (_ : Nat) ≤ _; first | omega | (simp <;> omega)))) (Nat.le_refl _))).mono ?_; rintro e w1 ⟨rfl, hb1⟩; have r1 := keep_rowA hb1; have f1 := keep_frA hb1; have s1 := hb1.size; (try simp only [World.size_alloc, World.size_setCell, setRow_size, World.size_drew, size_drewNm] at r1 f1 s1))
    go_quiet (first | (go_at_call 41; with_reducible exact Calls.quiet_of_same (HSZ.out _)) | (go_at_call 40; first | (with_reducible exact Calls.quiet_of_same (HA.out _)) | (with_reducible exact Calls.quiet_of_same (HB.out _))))
    go_wp2_with (go_at_call 36; refine (HL.out w.heap.size _ (by (go_simp <;> (intros; omega))) (by first | omega | (simp <;> omega)) (HH.out.below (by repeat' (first | with_reducible exact Below.refl _ _ | with_reducible assumption | with_reducible refine Below.drew ?_ | with_reducible refine Below.drewN ?_ _ | with_reducible refine Below.alloc ?_ ?_ _ | with_reducible refine Below.setCell ?_ ?_ _ | with_reducible refine Below.setRow ?_ ?_ _ | with_reducible refine below_step (by assumption) ?_ ?_ | (show (_ : Nat) ≤ _; first | omega | (simp <;> omega)))) (Nat.le_refl _)) (HPV.out.below (by repeat' (first | with_reducible exact Below.refl _ _ | with_reducible assumption | with_reducible refine Below.drew ?_ | with_reducible refine Below.drewN ?_ _ | with_reducible refine Below.alloc ?_ ?_ _ | with_reducible refine Below.setCell ?_ ?_ _ | with_reducible refine Below.setRow ?_ ?_ _ | with_reducible refine below_step (by assumption) ?_ ?_ | (show (_ : Nat) ≤ _; first | omega | (simp <;> omega)))) (Nat.le_refl _)) (HMX.out.below (by repeat' (first | with_reducible exact Below.refl _ _ | with_reducible assumption | with_reducible refine Below.drew ?_ | with_reducible refine Below.drewN ?_ _ | with_reducible refine Below.alloc ?_ ?_ _ | with_reducible refine Below.setCell ?_ ?_ _ | with_reducible refine Below.setRow ?_ ?_ _ | with_reducible refine below_step (by assumption) ?_ ?_ | (show (_ : Nat) ≤ _; first | omega | (simp <;> omega)))))).mono ?_; rintro e w3 ⟨v3, rfl, hall, hb3⟩; obtain ⟨ar, cr, rfl⟩ := hall.len; clear hall; have r_hb3 := keep_rowA hb3; have f_hb3 := keep_frA hb3; have s_hb3 := hb3.size; (try simp only [World.size_alloc, World.size_setCell, setRow_size, World.size_drew, size_drewNm] at r_hb3 f_hb3 s_hb3))
    refine bodyPost_ret (v := (.tuple #[.bool false, .int .i64 6])) (res_tt rfl rfl rfl) rfl ⟨rfl, by repeat' (first | with_reducible exact Below.refl _ _ | with_reducible assumption | with_reducible refine Below.drew ?_ | with_reducible refine Below.drewN ?_ _ | with_reducible refine Below.alloc ?_ ?_ _ | with_reducible refine Below.setCell ?_ ?_ _ | with_reducible refine Below.setRow ?_ ?_ _ | with_reducible refine below_step (by assumption) ?_ ?_ | (show (_ : Nat) ≤ _; first | omega | (simp <;> omega)))⟩
  · have hne : (allO c n F P).isEmpty = false := by rw [hLL]; rfl
    rw [(HSO.out hrE2 hne).1, (HSO.out hrE2 hne).2]
    have hL0 : 0 < (allO c n F P).length := by rw [hLL]; simp
    have hLF := HFW.out
    rw [Int.toNat_natCast, Int.toNat_natCast]
    clear hLL hne hrE2
    generalize allO c n F P = L at *
    have hl0 : ((L.length : Int) == 0) = false := by rw [beq_eq_false_iff_ne]; omega
    have hl1 : ¬ (L.length : Int) = 0 := by omega
    go_enter Tryz.func17, Tryz.ntmps17
    go_wp2_with (go_at_call 34; refine (HX.out _ (HH.out.below (by repeat' (first | with_reducible exact Below.refl _ _ | with_reducible assumption | with_reducible refine Below.drew ?_ | with_reducible refine Below.drewN ?_ _ | with_reducible refine Below.alloc ?_ ?_ _ | with_reducible refine Below.setCell ?_ ?_ _ | with_reducible refine Below.setRow ?_ ?_ _ | with_reducible refine below_step (by assumption) ?_ ?_ | (show (_ : Nat) ≤ _; first | omega | (simp <;> omega)))) (Nat.le_refl _))).mono ?_; rintro e w1 ⟨rfl, hb1⟩; have r1 := keep_rowA hb1; have f1 := keep_frA hb1; have s1 := hb1.size; (try simp only [World.size_alloc, World.size_setCell, setRow_size, World.size_drew, size_drewNm] at r1 f1 s1))
    go_quiet (first | (go_at_call 41; with_reducible exact Calls.quiet_of_same (HSZ.out _)) | (go_at_call 40; first | (with_reducible exact Calls.quiet_of_same (HA.out _)) | (with_reducible exact Calls.quiet_of_same (HB.out _))))
    go_wp2_with (go_at_call 36; refine (HL.out w.heap.size _ (by (go_simp <;> (intros; omega))) (by first | omega | (simp <;> omega)) (HH.out.below (by repeat' (first | with_reducible exact Below.refl _ _ | with_reducible assumption | with_reducible refine Below.drew ?_ | with_reducible refine Below.drewN ?_ _ | with_reducible refine Below.alloc ?_ ?_ _ | with_reducible refine Below.setCell ?_ ?_ _ | with_reducible refine Below.setRow ?_ ?_ _ | with_reducible refine below_step (by assumption) ?_ ?_ | (show (_ : Nat) ≤ _; first | omega | (simp <;> omega)))) (Nat.le_refl _)) (HPV.out.below (by repeat' (first | with_reducible exact Below.refl _ _ | with_reducible assumption | with_reducible refine Below.drew ?_ | with_reducible refine Below.drewN ?_ _ | with_reducible refine Below.alloc ?_ ?_ _ | with_reducible refine Below.setCell ?_ ?_ _ | with_reducible refine Below.setRow ?_ ?_ _ | with_reducible refine below_step (by assumption) ?_ ?_ | (show (_ : Nat) ≤ _; first | omega | (simp <;> omega)))) (Nat.le_refl _)) (HMX.out.below (by repeat' (first | with_reducible exact Below.refl _ _ | with_reducible assumption | with_reducible refine Below.drew ?_ | with_reducible refine Below.drewN ?_ _ | with_reducible refine Below.alloc ?_ ?_ _ | with_reducible refine Below.setCell ?_ ?_ _ | with_reducible refine Below.setRow ?_ ?_ _ | with_reducible refine below_step (by assumption) ?_ ?_ | (show (_ : Nat) ≤ _; first | omega | (simp <;> omega)))))).mono ?_; rintro e w3 ⟨v3, rfl, hall, hb3⟩; obtain ⟨ar, cr, rfl⟩ := hall.len; have HALL := Lib.hid hall; clear hall; have r_hb3 := keep_rowA hb3; have f_hb3 := keep_frA hb3; have s_hb3 := hb3.size; (try simp only [World.size_alloc, World.size_setCell, setRow_size, World.size_drew, size_drewNm] at r_hb3 f_hb3 s_hb3))
    have HSC := Lib.hid (fun w0 v4 w4 h1 h2 h3 h4 h5 => surC_any w0 L (by omega) n (by omega) (fun m h => HLN.out m h) (w.heap.size + 1) (w.heap.size + 2) x y v4 w4 h1 h2 h3 h4 h5)
    have HSU := Lib.hid (show suB L x y = !(L.any (behB x y)) from rfl)
    generalize L.any (behB x y) = z at *
    go_wp2_with (go_at_call 42; refine (HSC.out _ _ _ (by (go_simp <;> (intros; omega))) (by first | omega | (simp <;> omega)) (by (go_simp <;> (intros; omega))) (by first | omega | (simp <;> omega)) HALL.out).mono ?_; rintro e w4 ⟨rfl, hb4⟩; have r_hb4 := keep_rowA hb4; have f_hb4 := keep_frA hb4; have s_hb4 := hb4.size; (try simp only [World.size_alloc, World.size_setCell, setRow_size, World.size_drew, size_drewNm] at r_hb4 f_hb4 s_hb4))
    rw [HSU.out]
    refine bodyPost_ret (v := (.tuple #[.bool (!z), .int .i64 0])) (res_tt rfl rfl rfl) rfl ⟨rfl, by repeat' (first | with_reducible exact Below.refl _ _ | with_reducible assumption | with_reducible refine Below.drew ?_ | with_reducible refine Below.drewN ?_ _ | with_reducible refine Below.alloc ?_ ?_ _ | with_reducible refine Below.setCell ?_ ?_ _ | with_reducible refine Below.setRow ?_ ?_ _ | with_reducible refine below_step (by assumption) ?_ ?_ | (show (_ : Nat) ≤ _; first | omega | (simp <;> omega)))⟩
end Go.Proofs.YtifhffnppgkjgaaGreatDoor
