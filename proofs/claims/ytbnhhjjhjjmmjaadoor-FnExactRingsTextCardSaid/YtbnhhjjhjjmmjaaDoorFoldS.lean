/- Slices of folds: how such an argument reads; copied, sized and compared by the statements. -/
import Derived.Test.YtbnhhjjhjjmmjaaDoorSlV
import Derived.Test.YtbnhhjjhjjmmjaaDoorPressP
import Derived.Laws.MakeOwn
import Derived.StillTailTactics
namespace Go.Proofs.YtbnhhjjhjjmmjaaDoor
open Go.RowKit Go.ChangeShapes Go.WideShapes Go.ChangeAt Go.Deep
set_option linter.unusedVariables false
set_option linter.unusedSimpArgs false
set_option maxRecDepth 100000
/-- The cells of folds. -/
def fdV (F : Nat → Fd) (k j : Nat) : Value := if j = 0 then .int .i8 (F k).a else if j = 1 then .bool (F k).d else .int .i8 (F k).p
def fdL (f : Fd) : Array Value := #[.int .i8 f.a, .bool f.d, .int .i8 f.p]
def FdIn (f : Fd) : Prop := (-128 ≤ f.a ∧ f.a ≤ 127) ∧ -128 ≤ f.p ∧ f.p ≤ 127
theorem ext_fold {R : Array Value} {o : Nat} {F : Nat → Fd} {k : Nat} (hs : o + 3 ≤ R.size) (h : ∀ j, j < 3 → R[o + j]? = some (fdV F k j)) : rowExt R o 3 = #[.int .i8 (F k).a, .bool (F k).d, .int .i8 (F k).p] := ext_mk hs h
theorem open_slF {H : Type} {enc : TypeId × Value → H} {P : Program} {w : World} {base b0 : Nat} {spare : Nat → Bool} {held : Bool} {r : Reach} {t e : TypeId} {v : Value} {d : DataW H} {p : List MemPlace} {f0 f1 f2 : Field}
    (ht : P.underlying t = some (.slice e)) (hu : P.underlying e = some (.struct #[f0, f1, f2])) (u0 : P.underlying f0.type = some (.int .i8)) (u1 : P.underlying f1.type = some .bool) (u2 : P.underlying f2.type = some (.int .i8))
    (o0 : f0.offset = 0) (o1 : f1.offset = 1) (o2 : f2.offset = 2) (c0 : P.cellsOf f0.type = 1) (c1 : P.cellsOf f1.type = 1) (c2 : P.cellsOf f2.type = 1) (ct : P.cellsOf e = 3)
    (hv : Value.okWide P w r b0 t v) (h : DataW.Trod enc P w base spare held t v d p) :
    ∃ (n : Nat) (F : Nat → Fd), SlV 3 w v n (fdV F) ∧ n ≤ 9223372036854775807 ∧ ∀ k, k < n → FdIn (F k) := by
  obtain ⟨a0, len0, cap0, rfl⟩ := okWide_slice ht hv
  obtain ⟨fuel, hx⟩ := h
  rcases open_slice ht hx with ⟨h0, -⟩ | ⟨a, len, cap, m, n, D, Pl, h0, hb, hl, hm, hmm, -, hel⟩
  · simp only [Value.cells] at h0
    simp at h0
    obtain ⟨rfl, rfl, rfl⟩ := h0
    exact ⟨0, fun _ => ⟨0, false, 0⟩, .inl ⟨rfl, rfl⟩, by omega, fun j hj => by omega⟩
  · simp only [Value.cells] at h0
    simp at h0
    obtain ⟨rfl, rfl, rfl⟩ := h0
    have hlm : len0 ≤ m := by rw [hmm]; split <;> omega
    have each : ∀ k, k < len0 → ∃ f : Fd, FdIn f ∧ ∀ j, j < 3 → w.cell? (a.add (k * 3 + j)) = some (fdV (fun _ => f) 0 j) := by
      intro k hk
      obtain ⟨cs', h1, h2⟩ := hel k (by omega)
      obtain ⟨_, _, hcell⟩ := World.cells?_some h1
      obtain ⟨y0, y1, y2, nn, _, hl3, e0, e1, e2⟩ := Deep.trod_struct3 hu h2
      obtain ⟨x, hx, _, wx⟩ := DataW.trod_int u0 e0
      obtain ⟨b, hb2, _⟩ := DataW.trod_bool u1 e1
      obtain ⟨q, hq, _, wq⟩ := DataW.trod_int u2 e2
      simp only [o0, o1, o2, c0, c1, c2, ct] at hx hb2 hq hl3
      match cs', hl3 with
      | [x', y', z'], _ =>
        simp at hx hb2 hq
        subst hx; subst hb2; subst hq
        refine ⟨⟨x, b, q⟩, ⟨bd_i8 wx, bd_i8 wq⟩, fun j hj => ?_⟩
        have := hcell j (by rw [ct]; exact hj)
        rw [add_add, ct, Nat.mul_comm] at this
        rw [Nat.mul_comm] at this
        match j, hj with
        | 0, _ => exact this
        | 1, _ => exact this
        | 2, _ => exact this
    obtain ⟨F, hF⟩ : ∃ F : Nat → Fd, ∀ k, k < len0 → FdIn (F k) ∧ ∀ j, j < 3 → w.cell? (a.add (k * 3 + j)) = some (fdV F k j) := by
      classical
      refine ⟨fun k => if hk : k < len0 then Classical.choose (each k hk) else ⟨0, false, 0⟩, fun k hk => ?_⟩
      have hs := Classical.choose_spec (each k hk)
      refine ⟨by simp only [dif_pos hk]; exact hs.1, fun j hj => ?_⟩
      rw [hs.2 j hj]
      unfold fdV
      simp only [dif_pos hk]
    refine ⟨len0, F, .inr ⟨a, cap0, rfl, fun hn => ?_⟩, by unfold maxLen at hm; omega, fun k hk => (hF k hk).1⟩
    have h00 := (hF 0 hn).2 0 (by omega)
    have hspot : a.spot = none := by
      have : a.add (0 * 3 + 0) = a := by unfold Addr.add; simp
      rw [this] at h00
      unfold World.cell? at h00
      split at h00
      · split at h00
        · cases h00
        · rename_i hsp; simpa using hsp
      · cases h00
    obtain ⟨g, o, sp⟩ := a
    simp only at hspot
    subst hspot
    have hadd : ∀ j, (⟨g, o, none⟩ : Addr).add j = ⟨g, o + j, none⟩ := fun j => by unfold Addr.add; split <;> simp_all
    have hc : ∀ k, k < len0 → ∀ j, j < 3 → (rowOf w g)[o + k * 3 + j]? = some (fdV F k j) := fun k hk j hj => by
      have := (hF k hk).2 j hj
      rw [hadd, cell_row, ← Nat.add_assoc] at this
      exact this
    refine ⟨g, o, rfl, ?_, ?_, hc⟩
    · rw [hadd] at h00
      exact World.block_lt_of_cell? w ⟨g, o + (0 * 3 + 0), none⟩ h00
    · have := (Array.getElem?_eq_some_iff.1 (hc (len0 - 1) (by omega) 2 (by omega))).1
      omega
@[go_sem] theorem oneCell_intF (k : IntKind) (n : Int) : (Value.int k n).oneCell' = true := rfl
@[go_sem] theorem oneCell_boolF (b : Bool) : (Value.bool b).oneCell' = true := rfl
theorem size_ifold : (Tryd.prog.info? 93).map (·.size) = some 3 := by kernel_rfl
theorem size_lfold : (Tryd.prog.info? 95).map (·.size) = some 3 := by kernel_rfl
@[go_sem ↓] theorem toLoad_ifold (a : Addr) : loadVar 93 a = loadR 93 a := rfl
@[go_sem ↓] theorem toStore_ifold (a : Addr) (v : Value) : storeVar 93 a v = storeR 93 a v := rfl
@[go_sem] theorem load_ifold (w : World) (b o : Nat) : (loadR 93 ⟨b, o, none⟩).run Tryd.prog w = loaded Tryd.prog 93 3 w b o := run_load_rowA (P := Tryd.prog) 93 3 _ (by omega) Tryd.underlying93 rfl size_ifold w b o
@[go_sem] theorem store_ifold (w : World) (b o : Nat) (vs : Array Value) : (storeR 93 ⟨b, o, none⟩ (.agg vs)).run Tryd.prog w = storedRow Tryd.prog 93 3 w b o vs := run_store_rowA (P := Tryd.prog) 93 3 (by omega) size_ifold w b o vs
@[go_sem ↓] theorem toLoad_lfold (a : Addr) : loadVar 95 a = loadR 95 a := rfl
@[go_sem] theorem load_lfold (w : World) (b o : Nat) : (loadR 95 ⟨b, o, none⟩).run Tryd.prog w = loaded Tryd.prog 95 3 w b o := run_load_rowA (P := Tryd.prog) 95 3 _ (by omega) Tryd.underlying95 rfl size_lfold w b o
@[go_sem ↓] theorem zero_ifold (w : World) : (zeroValue 93).run Tryd.prog w = .ok (.agg #[.int .i8 0, .bool false, .int .i8 0]) w := by kernel_rfl
theorem fold_info : ∃ i z, Tryd.prog.info? 93 = some i ∧ i.zero = some z ∧ i.size = 3 ∧ i.bytes = 3 ∧ z.cells.size = 3 := by
  have h : (match Tryd.prog.info? 93 with | some i => (match i.zero with | some z => i.size == 3 && i.bytes == 3 && z.cells.size == 3 | none => false) | none => false) = true := by kernel_rfl
  split at h
  · rename_i i hi
    split at h
    · rename_i z hz
      simp only [Bool.and_eq_true, beq_iff_eq] at h
      exact ⟨i, z, hi, hz, h.1.1, h.1.2, h.2⟩
    · cases h
  · cases h
theorem folds_made : ∃ Z : Nat → Array Value, ∀ n, (Z n).size = n * 3 ∧ (n ≤ 1048576 → ∀ w : World, (Instr.makeSlice 42 (.int .i64 (n : Int)) (.int .i64 (n : Int))).run Tryd.prog w = .ok (.slice (some ⟨w.heap.size, 0, none⟩) n n) (w.alloc (.cells (Z n) 93))) := by
  obtain ⟨i0, z0, hi0, hz0, hs0, hb0, hc0⟩ := fold_info
  refine ⟨fun n => madeCells z0.cells (n * 3), fun n => ⟨size_madeCells _ _, fun hn w => ?_⟩⟩
  have := run_make (P := Tryd.prog) w 42 93 i0 z0 Tryd.underlying42 hi0 hz0 .i64 .i64 n n (by omega) (by omega) (by rw [hb0]; omega) (by omega)
  rw [hs0] at this
  simpa using this
theorem put_fold {d : Array Value} {n k : Nat} {F : Nat → Fd} (hds : d.size = n * 3) (hk : k < n) (h : ∀ i, i < k → ∀ j, j < 3 → d[i * 3 + j]? = some (fdV F i j)) :
    ∀ i, i < k + 1 → ∀ j, j < 3 → (splice d (k * 3) #[.int .i8 (F k).a, .bool (F k).d, .int .i8 (F k).p])[i * 3 + j]? = some (fdV F i j) := by
  intro i hi j hj
  have hsz : (#[Value.int .i8 (F k).a, .bool (F k).d, .int .i8 (F k).p] : Array Value).size = 3 := rfl
  rw [splice_get _ _ _ _ (by rw [hsz]; omega), hsz]
  by_cases hik : i = k
  · subst hik
    rw [if_pos (by omega), show i * 3 + j - i * 3 = j by omega]
    match j, hj with
    | 0, _ => rfl
    | 1, _ => rfl
    | 2, _ => rfl
  · rw [if_neg (by omega)]
    exact h i (by omega) j hj
set_option maxHeartbeats 2000000 in
theorem toFoldS_any (v : Value) (n : Nat) (F : Nat → Fd) (hn : n ≤ 1048576) (w : World) (h : SlV 3 w v n (fdV F)) :
    Calls Tryd.prog 23 #[v] w fun e w' => ∃ v', e = .returned v' ∧ OwnV 3 w' w.heap.size v' n (fdV F) ∧ Below w.heap.size w w' := by
  obtain ⟨Z, hZ⟩ := folds_made
  have hzs := (hZ n).1
  have hmk := (hZ n).2 hn
  clear hZ
  generalize Z n = z at hzs hmk
  obtain ⟨a, cap, rfl⟩ := h.len
  have HH := Lib.hid h
  clear h
  go_enter Tryd.func23, Tryd.ntmps23
  go_wp2
  go_loopw [4] (fun i wr => ∃ (k : Nat) (d : Array Value), k ≤ n ∧ i = .int .i64 k ∧ Below w.heap.size w wr ∧ w.heap.size + 1 ≤ wr.heap.size ∧ frOf wr w.heap.size = (0, 0) ∧ rowOf wr w.heap.size = d ∧ d.size = n * 3 ∧ ∀ i, i < k → ∀ j, j < 3 → d[i * 3 + j]? = some (fdV F i j)) (fun i wr => n - (intOf i).toNat)
  case atStart => exact ⟨0, z, by omega, rfl, by repeat' (first | with_reducible exact Below.refl _ _ | with_reducible assumption | with_reducible refine Below.drew ?_ | with_reducible refine Below.drewN ?_ _ | with_reducible refine Below.alloc ?_ ?_ _ | with_reducible refine Below.setCell ?_ ?_ _ | with_reducible refine Below.setRow ?_ ?_ _ | with_reducible refine below_step (by assumption) ?_ ?_ | (show (_ : Nat) ≤ _; first | omega | (simp <;> omega))), by simp, by (go_simp <;> (intros; omega)), by (go_simp <;> (intros; omega)), hzs, fun j hj => absurd hj (by omega)⟩
  case round =>
    obtain ⟨k, d, hk, rfl, hb, hsz, hfr, hrd, hds, hd⟩ := hrel
    have HD := Lib.hid hd
    clear hd
    by_cases hlt : k < n
    · obtain ⟨g, o, cap', hv, hg, hRs, hcells⟩ := HH.out.pos (by omega)
      simp only [Value.slice.injEq] at hv
      obtain ⟨rfl, -, rfl⟩ := hv
      have hr1 := keep_row hb hg
      have hw1 : g < wr.heap.size := Nat.lt_of_lt_of_le hg hb.size
      have he : rowExt (rowOf w g) (o + k * 3) 3 = #[.int .i8 (F k).a, .bool (F k).d, .int .i8 (F k).p] := ext_fold (by omega) (hcells k hlt)
      have HP := Lib.hid (put_fold hds hlt HD.out)
      obtain ⟨R, hR⟩ : ∃ R, rowOf w g = R := ⟨_, rfl⟩
      rw [hR] at hr1 he hRs
      clear hcells hR
      go_wp2_with ((go_at_call 61; refine (toFold_any _ _ _ _).mono ?_; rintro e w1 ⟨rfl, hb1⟩; have r1 := keep_rowA hb1; have f1 := keep_frA hb1; have s1 := hb1.size; (try simp only [World.size_alloc, World.size_setCell, setRow_size, World.size_drew, size_drewNm] at r1 f1 s1)))
      go_roundw
      case rel => first | exact ⟨k + 1, splice d (k * 3) #[.int .i8 (F k).a, .bool (F k).d, .int .i8 (F k).p], by omega, by go_num, by repeat' (first | with_reducible exact Below.refl _ _ | with_reducible assumption | with_reducible refine Below.drew ?_ | with_reducible refine Below.drewN ?_ _ | with_reducible refine Below.alloc ?_ ?_ _ | with_reducible refine Below.setCell ?_ ?_ _ | with_reducible refine Below.setRow ?_ ?_ _ | with_reducible refine below_step (by assumption) ?_ ?_ | (show (_ : Nat) ≤ _; first | omega | (simp <;> omega))), (by first | omega | (simp <;> omega)), by (go_simp <;> (intros; omega)), by (go_simp <;> (intros; omega)), by rw [splice_size]; exact hds, HP.out⟩ | ((repeat (with_reducible apply Exists.intro)); refine And.intro ?_ ?_; rotate_left; (focus ((repeat' (with_reducible apply And.intro)) <;> rfl)); exact ⟨k + 1, splice d (k * 3) #[.int .i8 (F k).a, .bool (F k).d, .int .i8 (F k).p], by omega, by go_num, by repeat' (first | with_reducible exact Below.refl _ _ | with_reducible assumption | with_reducible refine Below.drew ?_ | with_reducible refine Below.drewN ?_ _ | with_reducible refine Below.alloc ?_ ?_ _ | with_reducible refine Below.setCell ?_ ?_ _ | with_reducible refine Below.setRow ?_ ?_ _ | with_reducible refine below_step (by assumption) ?_ ?_ | (show (_ : Nat) ≤ _; first | omega | (simp <;> omega))), (by first | omega | (simp <;> omega)), by (go_simp <;> (intros; omega)), by (go_simp <;> (intros; omega)), by rw [splice_size]; exact hds, HP.out⟩)
      case measure => simp [intOf]; omega
    · have hke : k = n := by omega
      subst hke
      go_wp2
      go_ret
      exact ⟨_, rfl, .inr ⟨_, _, rfl, Nat.le_refl _, by omega, hfr, by rw [hrd]; omega, fun i hi j hj => by rw [hrd]; exact HD.out i hi j hj⟩, by repeat' (first | with_reducible exact Below.refl _ _ | with_reducible assumption | with_reducible refine Below.drew ?_ | with_reducible refine Below.drewN ?_ _ | with_reducible refine Below.alloc ?_ ?_ _ | with_reducible refine Below.setCell ?_ ?_ _ | with_reducible refine Below.setRow ?_ ?_ _ | with_reducible refine below_step (by assumption) ?_ ?_ | (show (_ : Nat) ≤ _; first | omega | (simp <;> omega)))⟩
theorem szFoldS_any (v : Value) (n : Nat) (V : Nat → Nat → Value) (left : Int) (hl : 0 ≤ left ∧ left ≤ 1048576) (hn : n ≤ 9223372036854775807) (w : World) (h : SlV 3 w v n V) :
    Calls Tryd.prog 21 #[v, .int .i64 left] w fun e w' => e = .returned (.int .i64 (if left < (n : Int) then -1 else left - (n : Int))) ∧ Below w.heap.size w w' := by
  obtain ⟨a, cap, rfl⟩ := h.len
  clear h
  by_cases hlt : left < (n : Int)
  · rw [if_pos hlt]
    go_enter Tryd.func21, Tryd.ntmps21
    go_wp2
    go_ret
    exact ⟨rfl, by repeat' (first | with_reducible exact Below.refl _ _ | with_reducible assumption | with_reducible refine Below.drew ?_ | with_reducible refine Below.drewN ?_ _ | with_reducible refine Below.alloc ?_ ?_ _ | with_reducible refine Below.setCell ?_ ?_ _ | with_reducible refine Below.setRow ?_ ?_ _ | with_reducible refine below_step (by assumption) ?_ ?_ | (show (_ : Nat) ≤ _; first | omega | (simp <;> omega)))⟩
  · rw [if_neg hlt]
    go_enter Tryd.func21, Tryd.ntmps21
    go_wp2
    go_ret
    exact ⟨rfl, by repeat' (first | with_reducible exact Below.refl _ _ | with_reducible assumption | with_reducible refine Below.drew ?_ | with_reducible refine Below.drewN ?_ _ | with_reducible refine Below.alloc ?_ ?_ _ | with_reducible refine Below.setCell ?_ ?_ _ | with_reducible refine Below.setRow ?_ ?_ _ | with_reducible refine below_step (by assumption) ?_ ?_ | (show (_ : Nat) ≤ _; first | omega | (simp <;> omega)))⟩
theorem eqFold_same (a q : Int) (d : Bool) (w : World) : Calls Tryd.prog 64 #[.agg #[.int .i8 a, .bool d, .int .i8 q], .agg #[.int .i8 a, .bool d, .int .i8 q]] w fun e w' => e = .returned (.bool true) ∧ Below w.heap.size w w' := by
  go_enter Tryd.func64, Tryd.ntmps64
  go_wp2
  go_ret
  exact ⟨rfl, by repeat' (first | with_reducible exact Below.refl _ _ | with_reducible assumption | with_reducible refine Below.drew ?_ | with_reducible refine Below.drewN ?_ _ | with_reducible refine Below.alloc ?_ ?_ _ | with_reducible refine Below.setCell ?_ ?_ _ | with_reducible refine Below.setRow ?_ ?_ _ | with_reducible refine below_step (by assumption) ?_ ?_ | (show (_ : Nat) ≤ _; first | omega | (simp <;> omega)))⟩
set_option maxHeartbeats 2000000 in
theorem eqFoldS_own (v1 v2 : Value) (n b1 b2 : Nat) (F : Nat → Fd) (hn : n < 1099511627776) (w : World) (h1 : OwnV 3 w b1 v1 n (fdV F)) (h2 : OwnV 3 w b2 v2 n (fdV F)) :
    Calls Tryd.prog 25 #[v1, v2] w fun e w' => e = .returned (.bool true) ∧ Below w.heap.size w w' := by
  rcases Nat.eq_zero_or_pos n with hz | hp
  · subst hz
    obtain ⟨a1, c1, rfl⟩ := h1.len
    obtain ⟨a2, c2, rfl⟩ := h2.len
    clear h1 h2
    go_enter Tryd.func25, Tryd.ntmps25
    go_wp2
    go_loopw [5] (fun i wr => i = .int .i64 (0 : Nat) ∧ Below w.heap.size w wr) (fun i wr => 0)
    case atStart => exact ⟨rfl, by repeat' (first | with_reducible exact Below.refl _ _ | with_reducible assumption | with_reducible refine Below.drew ?_ | with_reducible refine Below.drewN ?_ _ | with_reducible refine Below.alloc ?_ ?_ _ | with_reducible refine Below.setCell ?_ ?_ _ | with_reducible refine Below.setRow ?_ ?_ _ | with_reducible refine below_step (by assumption) ?_ ?_ | (show (_ : Nat) ≤ _; first | omega | (simp <;> omega)))⟩
    case round =>
      obtain ⟨rfl, hb⟩ := hrel
      go_wp2
      go_ret
      exact ⟨rfl, by repeat' (first | with_reducible exact Below.refl _ _ | with_reducible assumption | with_reducible refine Below.drew ?_ | with_reducible refine Below.drewN ?_ _ | with_reducible refine Below.alloc ?_ ?_ _ | with_reducible refine Below.setCell ?_ ?_ _ | with_reducible refine Below.setRow ?_ ?_ _ | with_reducible refine below_step (by assumption) ?_ ?_ | (show (_ : Nat) ≤ _; first | omega | (simp <;> omega)))⟩
  · obtain ⟨g1, c1, rfl, -, hg1, -, hs1, ht1⟩ := h1.pos hp
    obtain ⟨g2, c2, rfl, -, hg2, -, hs2, ht2⟩ := h2.pos hp
    have HX := Lib.hid (fun k (hk : k < n) => And.intro (ext_fold (o := k * 3) (by omega) (ht1 k hk)) (ext_fold (o := k * 3) (by omega) (ht2 k hk)))
    obtain ⟨R1, hR1⟩ : ∃ R, rowOf w g1 = R := ⟨_, rfl⟩
    obtain ⟨R2, hR2⟩ : ∃ R, rowOf w g2 = R := ⟨_, rfl⟩
    rw [hR1, hR2] at HX
    rw [hR1] at hs1
    rw [hR2] at hs2
    clear h1 h2 ht1 ht2
    go_enter Tryd.func25, Tryd.ntmps25
    go_wp2
    go_loopw [5] (fun i wr => ∃ k : Nat, k ≤ n ∧ i = .int .i64 k ∧ Below w.heap.size w wr) (fun i wr => n - (intOf i).toNat)
    case atStart => exact ⟨0, by omega, rfl, by repeat' (first | with_reducible exact Below.refl _ _ | with_reducible assumption | with_reducible refine Below.drew ?_ | with_reducible refine Below.drewN ?_ _ | with_reducible refine Below.alloc ?_ ?_ _ | with_reducible refine Below.setCell ?_ ?_ _ | with_reducible refine Below.setRow ?_ ?_ _ | with_reducible refine below_step (by assumption) ?_ ?_ | (show (_ : Nat) ≤ _; first | omega | (simp <;> omega)))⟩
    case round =>
      obtain ⟨k, hk, rfl, hb⟩ := hrel
      have hr1 := (keep_row hb hg1).trans hR1
      have hr2 := (keep_row hb hg2).trans hR2
      have hw1 : g1 < wr.heap.size := Nat.lt_of_lt_of_le hg1 hb.size
      have hw2 : g2 < wr.heap.size := Nat.lt_of_lt_of_le hg2 hb.size
      have hsz := hb.size
      clear hR1 hR2
      by_cases hlt : k < n
      · obtain ⟨e1, e2⟩ := HX.out k hlt
        go_wp2
        go_still_tail 8, (by kernel_rfl)
        change wpList _ _ _ _ _ (World.drew _)
        go_wp2_with ((go_at_call 64; refine (eqFold_same _ _ _ _).mono ?_; rintro e w1 ⟨rfl, hb1⟩; have r1 := keep_rowA hb1; have f1 := keep_frA hb1; have s1 := hb1.size; (try simp only [World.size_alloc, World.size_setCell, setRow_size, World.size_drew, size_drewNm] at r1 f1 s1)))
        go_roundw
        case rel => first | exact ⟨k + 1, by omega, by go_num, by repeat' (first | with_reducible exact Below.refl _ _ | with_reducible assumption | with_reducible refine Below.drew ?_ | with_reducible refine Below.drewN ?_ _ | with_reducible refine Below.alloc ?_ ?_ _ | with_reducible refine Below.setCell ?_ ?_ _ | with_reducible refine Below.setRow ?_ ?_ _ | with_reducible refine below_step (by assumption) ?_ ?_ | (show (_ : Nat) ≤ _; first | omega | (simp <;> omega)))⟩ | ((repeat (with_reducible apply Exists.intro)); refine And.intro ?_ ?_; rotate_left; (focus ((repeat' (with_reducible apply And.intro)) <;> rfl)); exact ⟨k + 1, by omega, by go_num, by repeat' (first | with_reducible exact Below.refl _ _ | with_reducible assumption | with_reducible refine Below.drew ?_ | with_reducible refine Below.drewN ?_ _ | with_reducible refine Below.alloc ?_ ?_ _ | with_reducible refine Below.setCell ?_ ?_ _ | with_reducible refine Below.setRow ?_ ?_ _ | with_reducible refine below_step (by assumption) ?_ ?_ | (show (_ : Nat) ≤ _; first | omega | (simp <;> omega)))⟩)
        case measure => simp [intOf]; omega
      · clear hr1 hr2
        go_wp2
        go_ret
        exact ⟨rfl, by repeat' (first | with_reducible exact Below.refl _ _ | with_reducible assumption | with_reducible refine Below.drew ?_ | with_reducible refine Below.drewN ?_ _ | with_reducible refine Below.alloc ?_ ?_ _ | with_reducible refine Below.setCell ?_ ?_ _ | with_reducible refine Below.setRow ?_ ?_ _ | with_reducible refine below_step (by assumption) ?_ ?_ | (show (_ : Nat) ≤ _; first | omega | (simp <;> omega)))⟩
end Go.Proofs.YtbnhhjjhjjmmjaaDoor
