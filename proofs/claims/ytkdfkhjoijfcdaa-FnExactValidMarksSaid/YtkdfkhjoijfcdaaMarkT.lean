/- A mark as the statements hand it over; copied, sized and compared by the statements. -/
import Derived.Test.YtkdfkhjoijfcdaaSpotS
import Derived.Test.YtkdfkhjoijfcdaaOpenSl
namespace Go.Proofs.Ytkdfkhjoijfcdaa
open Go.RowKit Go.ChangeShapes Go.WideShapes Go.ChangeAt Go.Deep
set_option linter.unusedVariables false
set_option linter.unusedSimpArgs false
set_option maxRecDepth 100000
theorem open_slAt {H : Type} {enc : TypeId × Value → H} {P : Program} {w : World} {base : Nat} {spare : Nat → Bool} {held : Bool} {t e : TypeId} {k : IntKind} {s : Nat} {v : Value} {fuel : Nat} {x : DataW H × List MemPlace}
    (ht : P.underlying t = some (.slice e)) (hf : isFlat P e s (fun _ => k) = true) (hs : 0 < s) (hx : DataW.trod enc P w base spare held fuel t [v] = some x) :
    ∃ (n : Nat) (f : Nat → Int), SlA k s w v n f ∧ n ≤ 9223372036854775807 ∧ ∀ j, j < n * s → (Lit.int k (f j)).wf = true := by
  unfold isFlat at hf
  simp only [Bool.and_eq_true, beq_iff_eq, decide_eq_true_eq] at hf
  rcases open_slice ht hx with ⟨h0, -⟩ | ⟨a, len0, cap0, m, n, D, Pl, h0, hb, hl, hm, hmm, -, hel⟩
  · simp at h0
    subst h0
    exact ⟨0, fun _ => 0, .inl ⟨rfl, rfl⟩, by omega, fun j hj => by omega⟩
  · simp at h0
    subst h0
    have hlm : len0 ≤ m := by rw [hmm]; split <;> omega
    have each : ∀ j, j < len0 * s → ∃ z : Int, w.cell? (a.add j) = some (.int k z) ∧ (Lit.int k z).wf = true := by
      intro j hj
      have hjs : j / s < len0 := (Nat.div_lt_iff_lt_mul hs).2 hj
      have hjr : j % s < s := Nat.mod_lt _ hs
      obtain ⟨cs', h1, h2⟩ := hel (j / s) (by omega)
      have hk := flat_reads 8 e _ hf.1 (by simp [hf.2]) h2
      obtain ⟨z, hz, hw⟩ := hk.2 (j % s) k (by simp [hjr])
      obtain ⟨_, _, hcell⟩ := World.cells?_some h1
      have := hcell (j % s) (by rw [hf.2]; exact hjr)
      rw [hz, add_add, hf.2, Nat.mul_comm, Nat.div_add_mod] at this
      exact ⟨z, this, hw⟩
    obtain ⟨f, hfn⟩ := choose_nums (p := fun j u => w.cell? (a.add j) = some u) each
    refine ⟨len0, f, .inr ⟨a, cap0, rfl, fun hn => ?_⟩, by unfold maxLen at hm; omega, fun j hj => (hfn j hj).2⟩
    have h00 := (hfn 0 (Nat.mul_pos hn hs)).1
    have hspot : a.spot = none := by
      have : a.add 0 = a := by unfold Addr.add; simp
      rw [this] at h00
      unfold World.cell? at h00
      split at h00
      · split at h00
        · cases h00
        · rename_i hsp; simpa using hsp
      · cases h00
    obtain ⟨g, o, sp⟩ := a
    simp only at hspot
    subst hspot
    have hadd : ∀ j, (⟨g, o, none⟩ : Addr).add j = ⟨g, o + j, none⟩ := fun j => by unfold Addr.add; split <;> simp_all
    refine ⟨g, o, rfl, ?_, fun j hj => ?_⟩
    · have := h00
      rw [hadd, Nat.add_zero] at this
      exact World.block_lt_of_cell? w ⟨g, o, none⟩ this
    · have := (hfn j hj).1
      rw [hadd, cell_row] at this
      exact this
theorem open_mark {H : Type} {enc : TypeId × Value → H} {P : Program} {w W : World} {base b0 : Nat} {spare : Nat → Bool} {held : Bool} {r : Reach} {t e : TypeId} {v : Value} {d : DataW H} {p : List MemPlace} {f0 f1 : Field}
    (hu : P.underlying t = some (.struct #[f0, f1])) (u0 : P.underlying f0.type = some (.int .i8)) (u1 : P.underlying f1.type = some (.slice e)) (hf : isFlat P e 2 (fun _ => .i8) = true)
    (o0 : f0.offset = 0) (o1 : f1.offset = 1) (c0 : P.cellsOf f0.type = 1) (c1 : P.cellsOf f1.type = 1) (ct : P.cellsOf t = 2)
    (hv : Value.okWide P W r b0 t v) (h : DataW.Trod enc P w base spare held t v d p) : ∃ (col : Int) (c : Value) (n : Nat) (f : Nat → Int), v = .agg #[.int .i8 col, c] ∧ (-128 ≤ col ∧ col ≤ 127) ∧ SlA .i8 2 w c n f ∧ n ≤ 9223372036854775807 ∧ ∀ j, j < n * 2 → (Lit.int .i8 (f j)).wf = true := by
  unfold Value.okWide at hv
  rw [hu] at hv
  obtain ⟨cs, rfl, _⟩ := hv
  obtain ⟨fuel, hx⟩ := h
  obtain ⟨y0, y1, n, _, hl, e0, e1⟩ := trod_struct2 hu hx
  obtain ⟨a, ha, _, wa⟩ := DataW.trod_int u0 e0
  simp only [Value.cells, o0, o1, c0, c1, ct] at ha hl e1
  obtain ⟨l⟩ := cs
  match l, hl with
  | [x, y], _ =>
    simp at ha e1
    subst ha
    obtain ⟨n, f, hs, hn, hw⟩ := open_slAt u1 hf (by decide) e1
    exact ⟨a, y, n, f, rfl, bd_i8 wa, hs, hn, hw⟩
@[go_sem] theorem oneCell_intM (k : IntKind) (n : Int) : (Value.int k n).oneCell' = true := rfl
@[go_sem] theorem oneCell_slM (a : Option Addr) (n c : Nat) : (Value.slice a n c).oneCell' = true := rfl
theorem OwnK.other {k : IntKind} {s : Nat} {w w' : World} {b : Nat} {v : Value} {n : Nat} {f : Nat → Int} (h : OwnK k s w b v n f) (hs : w.heap.size ≤ w'.heap.size) (hr : ∀ g, b ≤ g → g < w.heap.size → rowOf w' g = rowOf w g ∧ frOf w' g = frOf w g) : OwnK k s w' b v n f := by
  rcases h with h | ⟨g, cap, rfl, h1, h2, h3, h4, h5⟩
  · exact .inl h
  · obtain ⟨q1, q2⟩ := hr g h1 h2
    exact .inr ⟨g, cap, rfl, h1, by omega, by rw [q2]; exact h3, by rw [q1]; exact h4, by rw [q1]; exact h5⟩
theorem size_imark : (Try.prog.info? 70).map (·.size) = some 2 := by kernel_rfl
theorem size_lmark : (Try.prog.info? 66).map (·.size) = some 2 := by kernel_rfl
@[go_sem ↓] theorem toLoad_imark (a : Addr) : loadVar 70 a = loadR 70 a := rfl
@[go_sem ↓] theorem toStore_imark (a : Addr) (v : Value) : storeVar 70 a v = storeR 70 a v := rfl
@[go_sem] theorem load_imark (w : World) (b o : Nat) : (loadR 70 ⟨b, o, none⟩).run Try.prog w = loaded Try.prog 70 2 w b o := run_load_rowA (P := Try.prog) 70 2 _ (by omega) Try.underlying70 rfl size_imark w b o
@[go_sem] theorem store_imark (w : World) (b o : Nat) (vs : Array Value) : (storeR 70 ⟨b, o, none⟩ (.agg vs)).run Try.prog w = storedRow Try.prog 70 2 w b o vs := run_store_rowA (P := Try.prog) 70 2 (by omega) size_imark w b o vs
@[go_sem ↓] theorem toLoad_lmark (a : Addr) : loadVar 66 a = loadR 66 a := rfl
@[go_sem] theorem load_lmark (w : World) (b o : Nat) : (loadR 66 ⟨b, o, none⟩).run Try.prog w = loaded Try.prog 66 2 w b o := run_load_rowA (P := Try.prog) 66 2 _ (by omega) Try.underlying66 rfl size_lmark w b o
@[go_sem ↓] theorem zero_imark (w : World) : (zeroValue 70).run Try.prog w = .ok (.agg #[.int .i8 0, .slice none 0 0]) w := by kernel_rfl
theorem toMark_any (col : Int) (v : Value) (n : Nat) (f : Nat → Int) (hn : n ≤ 1048576) (w : World) (h : SlA .i8 2 w v n f) :
    Calls Try.prog 34 #[.agg #[.int .i8 col, v]] w fun e w' => ∃ v', e = .returned (.agg #[.int .i8 col, v']) ∧ OwnK .i8 2 w' w.heap.size v' n f ∧ Below w.heap.size w w' := by
  have HH := Lib.hid h
  obtain ⟨a0, cap0, rfl⟩ := h.len
  clear h
  go_enter Try.func34, Try.ntmps34
  go_wp2_with (go_at_call 60; refine (toSpotS_any _ n f hn _ (HH.out.below (by repeat' (first | with_reducible exact Below.refl _ _ | with_reducible assumption | with_reducible refine Below.drew ?_ | with_reducible refine Below.drewN ?_ _ | with_reducible refine Below.alloc ?_ ?_ _ | with_reducible refine Below.setCell ?_ ?_ _ | with_reducible refine Below.setRow ?_ ?_ _ | with_reducible refine below_step (by assumption) ?_ ?_ | (show (_ : Nat) ≤ _; first | omega | (simp <;> omega)))) (Nat.le_refl _))).mono ?_; rintro e w1 ⟨v1, rfl, ho, hb1⟩; obtain ⟨a1, cap1, rfl⟩ := ho.len; have r_hb1 := keep_rowA hb1; have f_hb1 := keep_frA hb1; have s_hb1 := hb1.size; (try simp only [World.size_alloc, World.size_setCell, setRow_size, World.size_drew, size_drewNm] at r_hb1 f_hb1 s_hb1); have Hv1 := Lib.hid (ho.down (b' := w.heap.size + 3) (by first | omega | (simp <;> omega))); clear ho)
  refine bodyPost_ret (v := .agg #[.int .i8 col, .slice a1 n cap1]) (res_c rfl rfl (by (go_simp <;> (intros; omega)))) rfl ⟨_, rfl, (Hv1.out.other ?_ (fun g h1 h2 => ?_)).down (by omega), by repeat' (first | with_reducible exact Below.refl _ _ | with_reducible assumption | with_reducible refine Below.drew ?_ | with_reducible refine Below.drewN ?_ _ | with_reducible refine Below.alloc ?_ ?_ _ | with_reducible refine Below.setCell ?_ ?_ _ | with_reducible refine Below.setRow ?_ ?_ _ | with_reducible refine below_step (by assumption) ?_ ?_ | (show (_ : Nat) ≤ _; first | omega | (simp <;> omega)))⟩
  · skip
    simp only [World.size_alloc, World.size_setCell, setRow_size, World.size_drew, size_drewNm]; omega
  have e1 : g ≠ w.heap.size + 1 := by omega
  have e2 : g ≠ w.heap.size + 1 + 1 := by omega
  constructor <;> go_simp
theorem szMark_any (col : Int) (v : Value) (n : Nat) (f : Nat → Int) (hn : n ≤ 9223372036854775807) (w : World) (h : SlA .i8 2 w v n f) :
    Calls Try.prog 32 #[.agg #[.int .i8 col, v], .int .i64 1048576] w fun e w' => e = .returned (.int .i64 (if 1048576 < (n : Int) then -1 else 1048576 - (n : Int))) ∧ Below w.heap.size w w' := by
  have HH := Lib.hid h
  obtain ⟨a0, cap0, rfl⟩ := h.len
  clear h
  by_cases hbig : 1048576 < (n : Int)
  · have HZ := Lib.hid (fun w h => if_pos hbig ▸ szSpotS_any (.slice a0 n cap0) n f hn w h)
    rw [if_pos hbig]
    go_enter Try.func32, Try.ntmps32
    go_wp2_with ((go_at_call 58; refine (HZ.out _ (HH.out.below (by repeat' (first | with_reducible exact Below.refl _ _ | with_reducible assumption | with_reducible refine Below.drew ?_ | with_reducible refine Below.drewN ?_ _ | with_reducible refine Below.alloc ?_ ?_ _ | with_reducible refine Below.setCell ?_ ?_ _ | with_reducible refine Below.setRow ?_ ?_ _ | with_reducible refine below_step (by assumption) ?_ ?_ | (show (_ : Nat) ≤ _; first | omega | (simp <;> omega)))) (Nat.le_refl _))).mono ?_; rintro e w1 ⟨rfl, hb1⟩; have r1 := keep_rowA hb1; have f1 := keep_frA hb1; have s1 := hb1.size; (try simp only [World.size_alloc, World.size_setCell, setRow_size, World.size_drew, size_drewNm] at r1 f1 s1)))
    go_ret
    exact ⟨rfl, by repeat' (first | with_reducible exact Below.refl _ _ | with_reducible assumption | with_reducible refine Below.drew ?_ | with_reducible refine Below.drewN ?_ _ | with_reducible refine Below.alloc ?_ ?_ _ | with_reducible refine Below.setCell ?_ ?_ _ | with_reducible refine Below.setRow ?_ ?_ _ | with_reducible refine below_step (by assumption) ?_ ?_ | (show (_ : Nat) ≤ _; first | omega | (simp <;> omega)))⟩
  · have HZ := Lib.hid (fun w h => if_neg hbig ▸ szSpotS_any (.slice a0 n cap0) n f hn w h)
    rw [if_neg hbig]
    have hz : ¬ (1048576 - (n : Int) < 0) := by omega
    clear hbig
    go_enter Try.func32, Try.ntmps32
    go_wp2_with ((go_at_call 58; refine (HZ.out _ (HH.out.below (by repeat' (first | with_reducible exact Below.refl _ _ | with_reducible assumption | with_reducible refine Below.drew ?_ | with_reducible refine Below.drewN ?_ _ | with_reducible refine Below.alloc ?_ ?_ _ | with_reducible refine Below.setCell ?_ ?_ _ | with_reducible refine Below.setRow ?_ ?_ _ | with_reducible refine below_step (by assumption) ?_ ?_ | (show (_ : Nat) ≤ _; first | omega | (simp <;> omega)))) (Nat.le_refl _))).mono ?_; rintro e w1 ⟨rfl, hb1⟩; have r1 := keep_rowA hb1; have f1 := keep_frA hb1; have s1 := hb1.size; (try simp only [World.size_alloc, World.size_setCell, setRow_size, World.size_drew, size_drewNm] at r1 f1 s1)))
    go_ret
    exact ⟨rfl, by repeat' (first | with_reducible exact Below.refl _ _ | with_reducible assumption | with_reducible refine Below.drew ?_ | with_reducible refine Below.drewN ?_ _ | with_reducible refine Below.alloc ?_ ?_ _ | with_reducible refine Below.setCell ?_ ?_ _ | with_reducible refine Below.setRow ?_ ?_ _ | with_reducible refine below_step (by assumption) ?_ ?_ | (show (_ : Nat) ≤ _; first | omega | (simp <;> omega)))⟩
theorem eqMark_own (col : Int) (v1 v2 : Value) (n b1 b2 : Nat) (f : Nat → Int) (hn : n < 1099511627776) (w : World) (h1 : OwnK .i8 2 w b1 v1 n f) (h2 : OwnK .i8 2 w b2 v2 n f) :
    Calls Try.prog 42 #[.agg #[.int .i8 col, v1], .agg #[.int .i8 col, v2]] w fun e w' => e = .returned (.bool true) ∧ Below w.heap.size w w' := by
  have H1 := Lib.hid h1
  have H2 := Lib.hid h2
  obtain ⟨a1, cap1, rfl⟩ := h1.len
  obtain ⟨a2, cap2, rfl⟩ := h2.len
  clear h1 h2
  go_enter Try.func42, Try.ntmps42
  go_wp2_with (go_at_call 68; refine (eqSpotS_own _ _ n _ _ _ hn _ (H1.out.below (by repeat' (first | with_reducible exact Below.refl _ _ | with_reducible assumption | with_reducible refine Below.drew ?_ | with_reducible refine Below.drewN ?_ _ | with_reducible refine Below.alloc ?_ ?_ _ | with_reducible refine Below.setCell ?_ ?_ _ | with_reducible refine Below.setRow ?_ ?_ _ | with_reducible refine below_step (by assumption) ?_ ?_ | (show (_ : Nat) ≤ _; first | omega | (simp <;> omega)))) (Nat.le_refl _)) (H2.out.below (by repeat' (first | with_reducible exact Below.refl _ _ | with_reducible assumption | with_reducible refine Below.drew ?_ | with_reducible refine Below.drewN ?_ _ | with_reducible refine Below.alloc ?_ ?_ _ | with_reducible refine Below.setCell ?_ ?_ _ | with_reducible refine Below.setRow ?_ ?_ _ | with_reducible refine below_step (by assumption) ?_ ?_ | (show (_ : Nat) ≤ _; first | omega | (simp <;> omega)))) (Nat.le_refl _))).mono ?_; rintro e w5 ⟨rfl, hb5⟩; have r_hb5 := keep_rowA hb5; have f_hb5 := keep_frA hb5; have s_hb5 := hb5.size; (try simp only [World.size_alloc, World.size_setCell, setRow_size, World.size_drew, size_drewNm] at r_hb5 f_hb5 s_hb5))
  go_ret
  exact ⟨rfl, by repeat' (first | with_reducible exact Below.refl _ _ | with_reducible assumption | with_reducible refine Below.drew ?_ | with_reducible refine Below.drewN ?_ _ | with_reducible refine Below.alloc ?_ ?_ _ | with_reducible refine Below.setCell ?_ ?_ _ | with_reducible refine Below.setRow ?_ ?_ _ | with_reducible refine below_step (by assumption) ?_ ?_ | (show (_ : Nat) ≤ _; first | omega | (simp <;> omega)))⟩
end Go.Proofs.Ytkdfkhjoijfcdaa
