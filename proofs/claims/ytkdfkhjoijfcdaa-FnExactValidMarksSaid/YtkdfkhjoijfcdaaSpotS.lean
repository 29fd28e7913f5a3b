/- Slices of spots: copied by the statements, cloned and turned round by the library. -/
import Derived.Test.YtkdfkhjoijfcdaaSlS
import Derived.Test.YtkdfkhjoijfcdaaAskBase
import Derived.Laws.MakeOwn
import Derived.Lib.SliceRun
namespace Go.Proofs.Ytkdfkhjoijfcdaa
open Go.RowKit
set_option linter.unusedVariables false
set_option linter.unusedSimpArgs false
set_option maxRecDepth 100000
theorem spot_made : ∃ Z : Nat → Array Value, ∀ n, (Z n).size = n * 2 ∧ (n ≤ 1048576 → ∀ w : World, (Instr.makeSlice 68 (.int .i64 (n : Int)) (.int .i64 (n : Int))).run Try.prog w = .ok (.slice (some ⟨w.heap.size, 0, none⟩) n n) (w.alloc (.cells (Z n) 75))) := by
  obtain ⟨i0, z0, hi0, hz0, hs0, hb0, hc0⟩ := spot_info
  refine ⟨fun n => madeCells z0.cells (n * 2), fun n => ⟨size_madeCells _ _, fun hn w => ?_⟩⟩
  have := run_make (P := Try.prog) w 68 75 i0 z0 Try.underlying68 hi0 hz0 .i64 .i64 n n (by omega) (by omega) (by rw [hb0]; omega) (by omega)
  rw [hs0] at this
  simpa using this
set_option maxHeartbeats 2000000 in
theorem toSpotS_full (v : Value) (n : Nat) (f : Nat → Int) (hn : n ≤ 1048576) (w : World) (h : SlA .i8 2 w v n f) :
    Calls Try.prog 60 #[v] w fun e w' => ∃ g, e = .returned (.slice (some ⟨g, 0, none⟩) n n) ∧ OwnK .i8 2 w' w.heap.size (.slice (some ⟨g, 0, none⟩) n n) n f ∧ Below w.heap.size w w' := by
  obtain ⟨Z, hZ⟩ := spot_made
  have hzs := (hZ n).1
  have hmk := (hZ n).2 hn
  clear hZ
  generalize Z n = z at hzs hmk
  obtain ⟨a, cap, rfl⟩ := h.len
  have HH := Lib.hid h
  clear h
  go_enter Try.func60, Try.ntmps60
  go_wp2
  go_loopw [4] (fun i wr => ∃ (k : Nat) (d : Array Value), k ≤ n ∧ i = .int .i64 k ∧ Below w.heap.size w wr ∧ w.heap.size + 1 ≤ wr.heap.size ∧ frOf wr w.heap.size = (0, 0) ∧ rowOf wr w.heap.size = d ∧ d.size = n * 2 ∧ ∀ j, j < k * 2 → d[j]? = some (.int .i8 (f j))) (fun i wr => n - (intOf i).toNat)
  case atStart => exact ⟨0, z, by omega, rfl, by repeat' (first | with_reducible exact Below.refl _ _ | with_reducible assumption | with_reducible refine Below.drew ?_ | with_reducible refine Below.drewN ?_ _ | with_reducible refine Below.alloc ?_ ?_ _ | with_reducible refine Below.setCell ?_ ?_ _ | with_reducible refine Below.setRow ?_ ?_ _ | with_reducible refine below_step (by assumption) ?_ ?_ | (show (_ : Nat) ≤ _; first | omega | (simp <;> omega))), by simp, by (go_simp <;> (intros; omega)), by (go_simp <;> (intros; omega)), hzs, fun j hj => absurd hj (by omega)⟩
  case round =>
    obtain ⟨k, d, hk, rfl, hb, hsz, hfr, hrd, hds, hd⟩ := hrel
    have HD := Lib.hid hd
    clear hd
    by_cases hlt : k < n
    · obtain ⟨g, o, cap', hv, hg, hcells⟩ := HH.out.pos (by omega)
      simp only [Value.slice.injEq] at hv
      obtain ⟨rfl, -, rfl⟩ := hv
      have hr1 := keep_row hb hg
      have hw1 : g < wr.heap.size := Nat.lt_of_lt_of_le hg hb.size
      have e1 := hcells (k * 2) (by omega)
      have e2 := hcells (k * 2 + 1) (by omega)
      rw [← hr1] at e1 e2
      rw [← Nat.add_assoc] at e2
      clear hcells hr1
      obtain ⟨u0, hdk⟩ : ∃ u0, d[k * 2]? = some u0 := ⟨_, Array.getElem?_eq_getElem (by omega)⟩
      obtain ⟨u1, hdk1⟩ : ∃ u1, d[k * 2 + 1]? = some u1 := ⟨_, Array.getElem?_eq_getElem (by omega)⟩
      generalize hx : f (k * 2) = x at e1
      generalize hy : f (k * 2 + 1) = y at e2
      have HX := Lib.hid (And.intro hx hy)
      clear hx hy
      go_wp2_with ((go_at_call 74; refine (toSpot_any _ _ _).mono ?_; rintro e w1 ⟨rfl, hb1⟩; have r1 := keep_rowA hb1; have f1 := keep_frA hb1; have s1 := hb1.size; (try simp only [World.size_alloc, World.size_setCell, setRow_size, World.size_drew, size_drewNm] at r1 f1 s1)))
      go_roundw
      case rel => first | exact ⟨k + 1, (d.setIfInBounds (k * 2) (.int .i8 x)).setIfInBounds (k * 2 + 1) (.int .i8 y), by omega, by go_num, by repeat' (first | with_reducible exact Below.refl _ _ | with_reducible assumption | with_reducible refine Below.drew ?_ | with_reducible refine Below.drewN ?_ _ | with_reducible refine Below.alloc ?_ ?_ _ | with_reducible refine Below.setCell ?_ ?_ _ | with_reducible refine Below.setRow ?_ ?_ _ | with_reducible refine below_step (by assumption) ?_ ?_ | (show (_ : Nat) ≤ _; first | omega | (simp <;> omega))), (by first | omega | (simp <;> omega)), by (go_simp <;> (intros; omega)), by (go_simp <;> (intros; omega)), by simp [hds], fun j hj => by rw [Array.getElem?_setIfInBounds, Array.getElem?_setIfInBounds]; split; (next e => subst e; rw [if_pos (by simp; omega), HX.out.2]); (next e => split; (next e2 => subst e2; rw [if_pos (by omega), HX.out.1]); (next e2 => exact HD.out j (by omega)))⟩ | ((repeat (with_reducible apply Exists.intro)); refine And.intro ?_ ?_; rotate_left; (focus ((repeat' (with_reducible apply And.intro)) <;> rfl)); exact ⟨k + 1, (d.setIfInBounds (k * 2) (.int .i8 x)).setIfInBounds (k * 2 + 1) (.int .i8 y), by omega, by go_num, by repeat' (first | with_reducible exact Below.refl _ _ | with_reducible assumption | with_reducible refine Below.drew ?_ | with_reducible refine Below.drewN ?_ _ | with_reducible refine Below.alloc ?_ ?_ _ | with_reducible refine Below.setCell ?_ ?_ _ | with_reducible refine Below.setRow ?_ ?_ _ | with_reducible refine below_step (by assumption) ?_ ?_ | (show (_ : Nat) ≤ _; first | omega | (simp <;> omega))), (by first | omega | (simp <;> omega)), by (go_simp <;> (intros; omega)), by (go_simp <;> (intros; omega)), by simp [hds], fun j hj => by rw [Array.getElem?_setIfInBounds, Array.getElem?_setIfInBounds]; split; (next e => subst e; rw [if_pos (by simp; omega), HX.out.2]); (next e => split; (next e2 => subst e2; rw [if_pos (by omega), HX.out.1]); (next e2 => exact HD.out j (by omega)))⟩)
      case measure => simp [intOf]; omega
    · have hke : k = n := by omega
      subst hke
      go_wp2
      go_ret
      exact ⟨_, rfl, .inr ⟨_, _, rfl, Nat.le_refl _, by omega, hfr, by rw [hrd]; omega, fun j hj => by rw [hrd]; exact HD.out j hj⟩, by repeat' (first | with_reducible exact Below.refl _ _ | with_reducible assumption | with_reducible refine Below.drew ?_ | with_reducible refine Below.drewN ?_ _ | with_reducible refine Below.alloc ?_ ?_ _ | with_reducible refine Below.setCell ?_ ?_ _ | with_reducible refine Below.setRow ?_ ?_ _ | with_reducible refine below_step (by assumption) ?_ ?_ | (show (_ : Nat) ≤ _; first | omega | (simp <;> omega)))⟩
theorem toSpotS_any (v : Value) (n : Nat) (f : Nat → Int) (hn : n ≤ 1048576) (w : World) (h : SlA .i8 2 w v n f) :
    Calls Try.prog 60 #[v] w fun e w' => ∃ v', e = .returned v' ∧ OwnK .i8 2 w' w.heap.size v' n f ∧ Below w.heap.size w w' :=
  (toSpotS_full v n f hn w h).mono fun _ _ ⟨g, h1, h2, h3⟩ => ⟨_, h1, h2, h3⟩
theorem szSpotS_any (v : Value) (n : Nat) (f : Nat → Int) (hn : n ≤ 9223372036854775807) (w : World) (h : SlA .i8 2 w v n f) :
    Calls Try.prog 58 #[v, .int .i64 1048576] w fun e w' => e = .returned (.int .i64 (if 1048576 < (n : Int) then -1 else 1048576 - (n : Int))) ∧ Below w.heap.size w w' := by
  obtain ⟨a, cap, rfl⟩ := h.len
  clear h
  by_cases hlt : 1048576 < (n : Int)
  · rw [if_pos hlt]
    go_enter Try.func58, Try.ntmps58
    go_wp2
    go_ret
    exact ⟨rfl, by repeat' (first | with_reducible exact Below.refl _ _ | with_reducible assumption | with_reducible refine Below.drew ?_ | with_reducible refine Below.drewN ?_ _ | with_reducible refine Below.alloc ?_ ?_ _ | with_reducible refine Below.setCell ?_ ?_ _ | with_reducible refine Below.setRow ?_ ?_ _ | with_reducible refine below_step (by assumption) ?_ ?_ | (show (_ : Nat) ≤ _; first | omega | (simp <;> omega)))⟩
  · rw [if_neg hlt]
    go_enter Try.func58, Try.ntmps58
    go_wp2
    go_ret
    exact ⟨rfl, by repeat' (first | with_reducible exact Below.refl _ _ | with_reducible assumption | with_reducible refine Below.drew ?_ | with_reducible refine Below.drewN ?_ _ | with_reducible refine Below.alloc ?_ ?_ _ | with_reducible refine Below.setCell ?_ ?_ _ | with_reducible refine Below.setRow ?_ ?_ _ | with_reducible refine below_step (by assumption) ?_ ?_ | (show (_ : Nat) ≤ _; first | omega | (simp <;> omega)))⟩
set_option maxHeartbeats 1000000 in
theorem clone_spots (v : Value) (n b : Nat) (f : Nat → Int) (hn : n ≤ 1048576) (w : World) (h : OwnK .i8 2 w b v n f) :
    Calls Try.prog 64 #[v] w fun e w' => ∃ v', e = .returned v' ∧ OwnK .i8 2 w' w.heap.size v' n f ∧ Below w.heap.size w w' := by
  obtain ⟨i0, z0, hi0, hz0, hs0, hb0, hc0⟩ := spot_info
  have heq := fun a m c w => Lib.run_eql_slice_nil (P := Try.prog) w 68 75 a m c 0 0 Try.underlying68
  rcases h with ⟨rfl, rfl⟩ | ⟨g, cap, rfl, hbg, hg, hfr, hsz, hcells⟩
  · go_enter Try.func64, Try.ntmps64
    go_wp2
    go_ret
    exact ⟨_, rfl, .inl ⟨rfl, rfl⟩, by repeat' (first | with_reducible exact Below.refl _ _ | with_reducible assumption | with_reducible refine Below.drew ?_ | with_reducible refine Below.drewN ?_ _ | with_reducible refine Below.alloc ?_ ?_ _ | with_reducible refine Below.setCell ?_ ?_ _ | with_reducible refine Below.setRow ?_ ?_ _ | with_reducible refine below_step (by assumption) ?_ ?_ | (show (_ : Nat) ≤ _; first | omega | (simp <;> omega)))⟩
  · have HC := Lib.hid hcells
    clear hcells
    go_enter Try.func64, Try.ntmps64
    go_wp2_with (at_builtin; refine wpList_append_own _ rfl _ _ 68 rfl w.heap.size 75 i0 z0 2 2 Try.underlying68 hi0 hz0 hs0 hb0 hc0 (by decide) _ _ _ rfl (owns_empty w _) ⟨g, 0, none⟩ n cap ((List.range (n * 2)).map fun j => .int .i8 (f j)) rfl (by simp) ?c1 ?c2 ?c3 ?c4 ?c5 ?_)
    case c1 =>
      intro j u hj
      have hjn : j < n * 2 := by
        have := (List.getElem?_eq_some_iff.1 hj).1
        simpa using this
      rw [List.getElem?_map, List.getElem?_range hjn] at hj
      simp only [Option.map_some, Option.some.injEq] at hj
      subst hj
      have e := HC.out j hjn
      have : ((⟨g, 0, none⟩ : Addr).add j) = ⟨g, j, none⟩ := by unfold Addr.add; split <;> simp_all
      rw [this, cell_row]
      go_simp
    case c2 => intro u hu; simp at hu; obtain ⟨j, -, rfl⟩ := hu; rfl
    case c3 => unfold maxLen; omega
    case c4 => omega
    case c5 => simp
    intro v' w1 hown' hgrow _
    have hbg : Below w.heap.size w w1 := below_grown (Below.alloc (Below.refl _ _) (Nat.le_refl _) _) hgrow (fun k hk => by simp [Value.ownBlock] at hk; omega) (by simp)
    have HB := Lib.hid hbg
    have HW := Lib.hid (OwnK.of (f := f) hown' (fun j hj => by rw [List.getElem?_map, List.getElem?_range hj]; rfl))
    clear hbg hown' hgrow
    go_wp2
    go_ret
    exact ⟨_, rfl, HW.out, HB.out⟩
/-- The numbers of a row of pairs turned round. -/
def rv (n : Nat) (f : Nat → Int) (j : Nat) : Int := f ((n - 1 - j / 2) * 2 + j % 2)
/-- One exchange more. -/
theorem swapped {n k m : Nat} {f : Nat → Int} {d : Array Value} {x1 y1 x2 y2 : Int} (hd : ∀ t e, t < n → e < 2 → d[t * 2 + e]? = some (.int .i8 (if t < k ∨ n < t + 1 + k then f ((n - 1 - t) * 2 + e) else f (t * 2 + e))))
    (hx1 : f (k * 2) = x1) (hy1 : f (k * 2 + 1) = y1) (hx2 : f (m * 2) = x2) (hy2 : f (m * 2 + 1) = y2) (hds : n * 2 ≤ d.size) (hkm : k < m) (hm : k + 1 + m = n) :
    ∀ t e, t < n → e < 2 → ((((d.setIfInBounds (k * 2) (.int .i8 x2)).setIfInBounds (k * 2 + 1) (.int .i8 y2)).setIfInBounds (m * 2) (.int .i8 x1)).setIfInBounds (m * 2 + 1) (.int .i8 y1))[t * 2 + e]? = some (.int .i8 (if t < k + 1 ∨ n < t + 1 + (k + 1) then f ((n - 1 - t) * 2 + e) else f (t * 2 + e))) := by
  intro t e ht he
  have h0 := hd t e ht he
  simp only [Array.getElem?_setIfInBounds, Array.size_setIfInBounds]
  by_cases q1 : m * 2 + 1 = t * 2 + e
  · obtain rfl : t = m := by omega
    obtain rfl : e = 1 := by omega
    rw [if_pos rfl, if_pos (by omega), if_pos (by omega), show n - 1 - t = k by omega, hy1]
  rw [if_neg q1]
  by_cases q2 : m * 2 = t * 2 + e
  · obtain rfl : t = m := by omega
    obtain rfl : e = 0 := by omega
    rw [if_pos (by omega), if_pos (by omega), if_pos (by omega), show n - 1 - t = k by omega, Nat.add_zero, hx1]
  rw [if_neg q2]
  by_cases q3 : k * 2 + 1 = t * 2 + e
  · obtain rfl : t = k := by omega
    obtain rfl : e = 1 := by omega
    rw [if_pos rfl, if_pos (by omega), if_pos (by omega), show n - 1 - t = m by omega, hy2]
  rw [if_neg q3]
  by_cases q4 : k * 2 = t * 2 + e
  · obtain rfl : t = k := by omega
    obtain rfl : e = 0 := by omega
    rw [if_pos (by omega), if_pos (by omega), if_pos (by omega), show n - 1 - t = m by omega, Nat.add_zero, hx2]
  rw [if_neg q4, h0]
  by_cases q5 : t < k ∨ n < t + 1 + k
  · rw [if_pos q5, if_pos (by omega)]
  · rw [if_neg q5, if_neg (by omega)]
/-- The first k pairs from behind. -/
def revL (f : Nat → Int) (n : Nat) : Nat → List Value
  | 0 => []
  | k + 1 => revL f n k ++ [.int .i8 (f ((n - 1 - k) * 2)), .int .i8 (f ((n - 1 - k) * 2 + 1))]
theorem revL_len (f : Nat → Int) (n k : Nat) : (revL f n k).length = k * 2 := by
  induction k with
  | zero => rfl
  | succ k ih => show (revL f n k ++ _).length = _; rw [List.length_append, ih, Nat.succ_mul]; rfl
theorem revL_get (f : Nat → Int) (n k j : Nat) (h : j < k * 2) : (revL f n k)[j]? = some (.int .i8 (rv n f j)) := by
  induction k with
  | zero => omega
  | succ k ih =>
    show (revL f n k ++ _)[j]? = _
    by_cases hj : j < k * 2
    · rw [List.getElem?_append_left (by rw [revL_len]; exact hj)]; exact ih hj
    · rw [List.getElem?_append_right (by rw [revL_len]; omega), revL_len]
      unfold rv
      by_cases q : j = k * 2
      · subst q
        rw [Nat.sub_self, show k * 2 / 2 = k by omega, show k * 2 % 2 = 0 by omega]; rfl
      · have q : j = k * 2 + 1 := by omega
        subst q
        rw [show k * 2 + 1 - k * 2 = 1 by omega, show (k * 2 + 1) / 2 = k by omega, show (k * 2 + 1) % 2 = 1 by omega]; rfl
end Go.Proofs.Ytkdfkhjoijfcdaa
