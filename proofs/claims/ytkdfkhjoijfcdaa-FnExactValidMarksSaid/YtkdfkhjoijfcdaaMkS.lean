/- Slices of marks: how such an argument reads; sized, copied and compared by the statements. -/
import Derived.Test.YtkdfkhjoijfcdaaMarkT
import Derived.Test.YtkdfkhjoijfcdaaSlV
import Derived.Laws.MakeOwn
import Derived.StillTailTactics
namespace Go.Proofs.Ytkdfkhjoijfcdaa
open Go.RowKit Go.ChangeShapes Go.WideShapes Go.ChangeAt Go.Deep
set_option linter.unusedVariables false
set_option linter.unusedSimpArgs false
set_option maxRecDepth 100000
/-- A mark: its colour, its cells' slice, how many and where. -/
structure Mk where
  col : Int
  v : Value
  n : Nat
  f : Nat → Int
def mkV (F : Nat → Mk) (k j : Nat) : Value := if j = 0 then .int .i8 (F k).col else (F k).v
def SlM (w : World) (v : Value) (n : Nat) (F : Nat → Mk) : Prop := SlV 2 w v n (mkV F) ∧ ∀ k, k < n → SlA .i8 2 w (F k).v (F k).n (F k).f
def OwnM (w : World) (b : Nat) (v : Value) (n : Nat) (F : Nat → Mk) : Prop := OwnV 2 w b v n (mkV F) ∧ ∀ k, k < n → OwnK .i8 2 w b (F k).v (F k).n (F k).f
def MkIn (x : Mk) : Prop := (-128 ≤ x.col ∧ x.col ≤ 127) ∧ x.n ≤ 9223372036854775807 ∧ ∀ j, j < x.n * 2 → (Lit.int .i8 (x.f j)).wf = true
theorem SlM.below {w w' : World} {v : Value} {n : Nat} {F : Nat → Mk} (h : SlM w v n F) {B : Nat} (hb : Below B w w') (hB : w.heap.size ≤ B) : SlM w' v n F := ⟨h.1.below hb hB, fun k hk => (h.2 k hk).below hb hB⟩
theorem OwnM.below {w w' : World} {b : Nat} {v : Value} {n : Nat} {F : Nat → Mk} (h : OwnM w b v n F) {B : Nat} (hb : Below B w w') (hB : w.heap.size ≤ B) : OwnM w' b v n F := ⟨h.1.below hb hB, fun k hk => (h.2 k hk).below hb hB⟩
theorem OwnM.slM {w : World} {b : Nat} {v : Value} {n : Nat} {F : Nat → Mk} (h : OwnM w b v n F) : SlM w v n F := ⟨h.1.slV, fun k hk => (h.2 k hk).slA⟩
theorem mk_read {R : Array Value} {o k : Nat} {F : Nat → Mk} (h : ∀ j, j < 2 → R[o + k * 2 + j]? = some (mkV F k j)) : R[o + k * 2]? = some (.int .i8 (F k).col) ∧ R[o + k * 2 + 1]? = some (F k).v := ⟨h 0 (by omega), h 1 (by omega)⟩
theorem mk_ext2 {R : Array Value} {o k : Nat} {F : Nat → Mk} (h : ∀ j, j < 2 → R[o + k * 2 + j]? = some (mkV F k j)) : rowExt R (o + k * 2) 2 = #[.int .i8 (F k).col, (F k).v] := by
  obtain ⟨h0, h1⟩ := mk_read h
  have hs : o + k * 2 + 2 ≤ R.size := by have := (Array.getElem?_eq_some_iff.1 h1).1; omega
  rw [ext_mk (V := mkV F k) hs h]
  rfl
theorem open_slM {H : Type} {enc : TypeId × Value → H} {P : Program} {w : World} {base b0 : Nat} {spare : Nat → Bool} {held : Bool} {r : Reach} {t e es : TypeId} {v : Value} {d : DataW H} {p : List MemPlace} {f0 f1 : Field}
    (ht : P.underlying t = some (.slice e)) (hu : P.underlying e = some (.struct #[f0, f1])) (u0 : P.underlying f0.type = some (.int .i8)) (u1 : P.underlying f1.type = some (.slice es)) (hf : isFlat P es 2 (fun _ => .i8) = true)
    (o0 : f0.offset = 0) (o1 : f1.offset = 1) (c0 : P.cellsOf f0.type = 1) (c1 : P.cellsOf f1.type = 1) (ct : P.cellsOf e = 2)
    (hv : Value.okWide P w r b0 t v) (h : DataW.Trod enc P w base spare held t v d p) :
    ∃ (n : Nat) (F : Nat → Mk), SlM w v n F ∧ n ≤ 9223372036854775807 ∧ ∀ k, k < n → MkIn (F k) := by
  obtain ⟨a0, len0, cap0, rfl⟩ := okWide_slice ht hv
  obtain ⟨fuel, hx⟩ := h
  rcases open_slice ht hx with ⟨h0, -⟩ | ⟨a, len, cap, m, n, D, Pl, h0, hb, hl, hm, hmm, -, hel⟩
  · simp only [Value.cells] at h0
    simp at h0
    obtain ⟨rfl, rfl, rfl⟩ := h0
    exact ⟨0, fun _ => ⟨0, .slice none 0 0, 0, fun _ => 0⟩, ⟨.inl ⟨rfl, rfl⟩, fun k hk => absurd hk (by omega)⟩, by omega, fun j hj => by omega⟩
  · simp only [Value.cells] at h0
    simp at h0
    obtain ⟨rfl, rfl, rfl⟩ := h0
    have hlm : len0 ≤ m := by rw [hmm]; split <;> omega
    have each : ∀ k, k < len0 → ∃ x : Mk, (MkIn x ∧ SlA .i8 2 w x.v x.n x.f) ∧ ∀ j, j < 2 → w.cell? (a.add (k * 2 + j)) = some (mkV (fun _ => x) 0 j) := by
      intro k hk
      obtain ⟨cs', h1, h2⟩ := hel k (by omega)
      obtain ⟨_, _, hcell⟩ := World.cells?_some h1
      obtain ⟨y0, y1, nn, _, hl2, e0, e1⟩ := trod_struct2 hu h2
      obtain ⟨x, hx, _, wx⟩ := DataW.trod_int u0 e0
      simp only [o0, o1, c0, c1, ct] at hx hl2 e1
      match cs', hl2 with
      | [x', y'], _ =>
        simp at hx e1
        subst hx
        obtain ⟨q, f, hs, hn, hw⟩ := open_slAt u1 hf (by decide) e1
        refine ⟨⟨x, y', q, f⟩, ⟨⟨bd_i8 wx, hn, hw⟩, hs⟩, fun j hj => ?_⟩
        have := hcell j (by rw [ct]; exact hj)
        rw [add_add, ct, Nat.mul_comm] at this
        rw [Nat.mul_comm] at this
        match j, hj with
        | 0, _ => exact this
        | 1, _ => exact this
    obtain ⟨F, hF⟩ : ∃ F : Nat → Mk, ∀ k, k < len0 → (MkIn (F k) ∧ SlA .i8 2 w (F k).v (F k).n (F k).f) ∧ ∀ j, j < 2 → w.cell? (a.add (k * 2 + j)) = some (mkV F k j) := by
      classical
      refine ⟨fun k => if hk : k < len0 then Classical.choose (each k hk) else ⟨0, .slice none 0 0, 0, fun _ => 0⟩, fun k hk => ?_⟩
      have hs := Classical.choose_spec (each k hk)
      refine ⟨by simp only [dif_pos hk]; exact hs.1, fun j hj => ?_⟩
      have := hs.2 j hj
      unfold mkV at this ⊢
      simp only [dif_pos hk]
      exact this
    refine ⟨len0, F, ⟨.inr ⟨a, cap0, rfl, fun hn => ?_⟩, fun k hk => (hF k hk).1.2⟩, by unfold maxLen at hm; omega, fun k hk => (hF k hk).1.1⟩
    have h00 := (hF 0 hn).2 0 (by omega)
    have hspot : a.spot = none := by
      have : a.add 0 = a := by unfold Addr.add; simp
      rw [Nat.zero_mul, Nat.zero_add, this] at h00
      unfold World.cell? at h00
      split at h00
      · split at h00
        · cases h00
        · rename_i hsp; simpa using hsp
      · cases h00
    obtain ⟨g, o, sp⟩ := a
    simp only at hspot
    subst hspot
    have hadd : ∀ j, (⟨g, o, none⟩ : Addr).add j = ⟨g, o + j, none⟩ := fun j => by unfold Addr.add; split <;> simp_all
    have hc : ∀ k, k < len0 → ∀ j, j < 2 → (rowOf w g)[o + (k * 2 + j)]? = some (mkV F k j) := fun k hk j hj => by
      have := (hF k hk).2 j hj
      rw [hadd, cell_row] at this
      exact this
    refine ⟨g, o, rfl, ?_, ?_, fun k hk j hj => by rw [Nat.add_assoc]; exact hc k hk j hj⟩
    · have := h00
      rw [hadd] at this
      exact World.block_lt_of_cell? w _ this
    · have := (Array.getElem?_eq_some_iff.1 (hc (len0 - 1) (by omega) 1 (by omega))).1
      omega
theorem szSpotsL_any (v : Value) (n : Nat) (f : Nat → Int) (left : Int) (hl : 0 ≤ left ∧ left ≤ 1048576) (hn : n ≤ 9223372036854775807) (w : World) (h : SlA .i8 2 w v n f) :
    Calls Try.prog 58 #[v, .int .i64 left] w fun e w' => e = .returned (.int .i64 (if left < (n : Int) then -1 else left - (n : Int))) ∧ Below w.heap.size w w' := by
  obtain ⟨a, cap, rfl⟩ := h.len
  clear h
  by_cases hlt : left < (n : Int)
  · rw [if_pos hlt]
    have h1 : IntKind.i64.wrap (left - (n : Int)) = left - (n : Int) := IntWalk.i64_in _ (by omega)
    have h2 : left - (n : Int) < 0 := by omega
    clear hlt
    go_enter Try.func58, Try.ntmps58
    go_wp2
    go_ret
    exact ⟨rfl, by repeat' (first | with_reducible exact Below.refl _ _ | with_reducible assumption | with_reducible refine Below.drew ?_ | with_reducible refine Below.drewN ?_ _ | with_reducible refine Below.alloc ?_ ?_ _ | with_reducible refine Below.setCell ?_ ?_ _ | with_reducible refine Below.setRow ?_ ?_ _ | with_reducible refine below_step (by assumption) ?_ ?_ | (show (_ : Nat) ≤ _; first | omega | (simp <;> omega)))⟩
  · rw [if_neg hlt]
    have h1 : IntKind.i64.wrap (left - (n : Int)) = left - (n : Int) := IntWalk.i64_in _ (by omega)
    have h2 : ¬ left - (n : Int) < 0 := by omega
    clear hlt
    go_enter Try.func58, Try.ntmps58
    go_wp2
    go_ret
    exact ⟨rfl, by repeat' (first | with_reducible exact Below.refl _ _ | with_reducible assumption | with_reducible refine Below.drew ?_ | with_reducible refine Below.drewN ?_ _ | with_reducible refine Below.alloc ?_ ?_ _ | with_reducible refine Below.setCell ?_ ?_ _ | with_reducible refine Below.setRow ?_ ?_ _ | with_reducible refine below_step (by assumption) ?_ ?_ | (show (_ : Nat) ≤ _; first | omega | (simp <;> omega)))⟩
theorem szMarkL_any (col : Int) (v : Value) (n : Nat) (f : Nat → Int) (left : Int) (hl : 0 ≤ left ∧ left ≤ 1048576) (hn : n ≤ 9223372036854775807) (w : World) (h : SlA .i8 2 w v n f) :
    Calls Try.prog 32 #[.agg #[.int .i8 col, v], .int .i64 left] w fun e w' => e = .returned (.int .i64 (if left < (n : Int) then -1 else left - (n : Int))) ∧ Below w.heap.size w w' := by
  have HH := Lib.hid h
  obtain ⟨a0, cap0, rfl⟩ := h.len
  have HZ0 := fun w h => szSpotsL_any (.slice a0 n cap0) n f left hl hn w h
  clear h
  by_cases hbig : left < (n : Int)
  · rw [if_pos hbig] at HZ0 ⊢
    have HZ := Lib.hid HZ0
    clear HZ0 hbig
    go_enter Try.func32, Try.ntmps32
    go_wp2_with ((go_at_call 58; refine (HZ.out _ (HH.out.below (by repeat' (first | with_reducible exact Below.refl _ _ | with_reducible assumption | with_reducible refine Below.drew ?_ | with_reducible refine Below.drewN ?_ _ | with_reducible refine Below.alloc ?_ ?_ _ | with_reducible refine Below.setCell ?_ ?_ _ | with_reducible refine Below.setRow ?_ ?_ _ | with_reducible refine below_step (by assumption) ?_ ?_ | (show (_ : Nat) ≤ _; first | omega | (simp <;> omega)))) (Nat.le_refl _))).mono ?_; rintro e w1 ⟨rfl, hb1⟩; have r1 := keep_rowA hb1; have f1 := keep_frA hb1; have s1 := hb1.size; (try simp only [World.size_alloc, World.size_setCell, setRow_size, World.size_drew, size_drewNm] at r1 f1 s1)))
    go_ret
    exact ⟨rfl, by repeat' (first | with_reducible exact Below.refl _ _ | with_reducible assumption | with_reducible refine Below.drew ?_ | with_reducible refine Below.drewN ?_ _ | with_reducible refine Below.alloc ?_ ?_ _ | with_reducible refine Below.setCell ?_ ?_ _ | with_reducible refine Below.setRow ?_ ?_ _ | with_reducible refine below_step (by assumption) ?_ ?_ | (show (_ : Nat) ≤ _; first | omega | (simp <;> omega)))⟩
  · rw [if_neg hbig] at HZ0 ⊢
    have HZ := Lib.hid HZ0
    have hz : ¬ (left - (n : Int) < 0) := by omega
    clear hbig HZ0
    go_enter Try.func32, Try.ntmps32
    go_wp2_with ((go_at_call 58; refine (HZ.out _ (HH.out.below (by repeat' (first | with_reducible exact Below.refl _ _ | with_reducible assumption | with_reducible refine Below.drew ?_ | with_reducible refine Below.drewN ?_ _ | with_reducible refine Below.alloc ?_ ?_ _ | with_reducible refine Below.setCell ?_ ?_ _ | with_reducible refine Below.setRow ?_ ?_ _ | with_reducible refine below_step (by assumption) ?_ ?_ | (show (_ : Nat) ≤ _; first | omega | (simp <;> omega)))) (Nat.le_refl _))).mono ?_; rintro e w1 ⟨rfl, hb1⟩; have r1 := keep_rowA hb1; have f1 := keep_frA hb1; have s1 := hb1.size; (try simp only [World.size_alloc, World.size_setCell, setRow_size, World.size_drew, size_drewNm] at r1 f1 s1)))
    go_ret
    exact ⟨rfl, by repeat' (first | with_reducible exact Below.refl _ _ | with_reducible assumption | with_reducible refine Below.drew ?_ | with_reducible refine Below.drewN ?_ _ | with_reducible refine Below.alloc ?_ ?_ _ | with_reducible refine Below.setCell ?_ ?_ _ | with_reducible refine Below.setRow ?_ ?_ _ | with_reducible refine below_step (by assumption) ?_ ?_ | (show (_ : Nat) ≤ _; first | omega | (simp <;> omega)))⟩
set_option maxHeartbeats 2000000 in
theorem szMarkS_any (v : Value) (n : Nat) (F : Nat → Mk) (hn : n ≤ 9223372036854775807) (hF : ∀ k, k < n → MkIn (F k)) (w : World) (h : SlM w v n F) :
    Calls Try.prog 13 #[v, .int .i64 1048576] w fun e w' => ∃ r : Int, e = .returned (.int .i64 r) ∧ (r < 0 ∨ (0 ≤ r ∧ n ≤ 1048576 ∧ ∀ k, k < n → (F k).n ≤ 1048576)) ∧ -1 ≤ r ∧ Below w.heap.size w w' := by
  have HH := Lib.hid h
  have HF := Lib.hid hF
  obtain ⟨a, cap, rfl⟩ := h.1.len
  clear h hF
  by_cases hbig : (1048576 : Int) < (n : Int)
  · have h2 : (1048576 : Int) - (n : Int) < 0 := by omega
    clear hbig
    go_enter Try.func13, Try.ntmps13
    go_wp2
    go_ret
    exact ⟨-1, rfl, .inl (by omega), by omega, by repeat' (first | with_reducible exact Below.refl _ _ | with_reducible assumption | with_reducible refine Below.drew ?_ | with_reducible refine Below.drewN ?_ _ | with_reducible refine Below.alloc ?_ ?_ _ | with_reducible refine Below.setCell ?_ ?_ _ | with_reducible refine Below.setRow ?_ ?_ _ | with_reducible refine below_step (by assumption) ?_ ?_ | (show (_ : Nat) ≤ _; first | omega | (simp <;> omega)))⟩
  · have h2 : ¬ (1048576 : Int) - (n : Int) < 0 := by omega
    have hn2 : n ≤ 1048576 := by omega
    clear hbig
    go_enter Try.func13, Try.ntmps13
    go_wp2
    go_loopw [5, 1] (fun i s wr => ∃ (k : Nat) (l : Int), k ≤ n ∧ i = .int .i64 k ∧ s = .int .i64 l ∧ (0 ≤ l ∧ l ≤ 1048576) ∧ Below w.heap.size w wr ∧ ∀ j, j < k → (F j).n ≤ 1048576) (fun i s wr => n - (intOf i).toNat)
    case atStart => exact ⟨0, 1048576 - (n : Int), by omega, rfl, rfl, by omega, by repeat' (first | with_reducible exact Below.refl _ _ | with_reducible assumption | with_reducible refine Below.drew ?_ | with_reducible refine Below.drewN ?_ _ | with_reducible refine Below.alloc ?_ ?_ _ | with_reducible refine Below.setCell ?_ ?_ _ | with_reducible refine Below.setRow ?_ ?_ _ | with_reducible refine below_step (by assumption) ?_ ?_ | (show (_ : Nat) ≤ _; first | omega | (simp <;> omega))), fun j hj => by omega⟩
    case round =>
      obtain ⟨k, l, hk, rfl, rfl, hl, hb, hd⟩ := hrel
      have HD := Lib.hid hd
      have hsz0 := hb.size
      clear hd
      by_cases hlt : k < n
      · obtain ⟨g, o, cap', hv, hg, hRs, hcells⟩ := HH.out.1.pos (by omega)
        simp only [Value.slice.injEq] at hv
        obtain ⟨rfl, -, rfl⟩ := hv
        have hr1 := keep_row hb hg
        have hw1 : g < wr.heap.size := Nat.lt_of_lt_of_le hg hb.size
        have he : rowExt (rowOf w g) (o + k * 2) 2 = #[.int .i8 (F k).col, (F k).v] := mk_ext2 (hcells k hlt)
        obtain ⟨R, hR⟩ : ∃ R, rowOf w g = R := ⟨_, rfl⟩
        rw [hR] at hr1 he hRs
        have hRk : o + k * 2 + 2 ≤ R.size := by omega
        have HS := Lib.hid (HH.out.2 k hlt)
        have HZ0 := fun w h => szMarkL_any (F k).col (F k).v (F k).n (F k).f l hl (HF.out k hlt).2.1 w h
        have hlt2 : (k : Int) < (n : Int) := by omega
        clear hcells hR
        by_cases hq : l < ((F k).n : Int)
        · rw [if_pos hq] at HZ0
          have HZ := Lib.hid HZ0
          clear HZ0 hq
          generalize (F k).v = vk at *
          go_wp2_with ((go_at_call 32; refine (HZ.out _ (HS.out.below (by repeat' (first | with_reducible exact Below.refl _ _ | with_reducible assumption | with_reducible refine Below.drew ?_ | with_reducible refine Below.drewN ?_ _ | with_reducible refine Below.alloc ?_ ?_ _ | with_reducible refine Below.setCell ?_ ?_ _ | with_reducible refine Below.setRow ?_ ?_ _ | with_reducible refine below_step (by assumption) ?_ ?_ | (show (_ : Nat) ≤ _; first | omega | (simp <;> omega)))) (Nat.le_refl _))).mono ?_; rintro e w1 ⟨rfl, hb1⟩; have r1 := keep_rowA hb1; have f1 := keep_frA hb1; have s1 := hb1.size; (try simp only [World.size_alloc, World.size_setCell, setRow_size, World.size_drew, size_drewNm] at r1 f1 s1)))
          go_ret
          exact ⟨-1, rfl, .inl (by omega), by omega, by repeat' (first | with_reducible exact Below.refl _ _ | with_reducible assumption | with_reducible refine Below.drew ?_ | with_reducible refine Below.drewN ?_ _ | with_reducible refine Below.alloc ?_ ?_ _ | with_reducible refine Below.setCell ?_ ?_ _ | with_reducible refine Below.setRow ?_ ?_ _ | with_reducible refine below_step (by assumption) ?_ ?_ | (show (_ : Nat) ≤ _; first | omega | (simp <;> omega)))⟩
        · rw [if_neg hq] at HZ0
          have HZ := Lib.hid HZ0
          have hz : ¬ (l - ((F k).n : Int) < 0) := by omega
          have HN := Lib.hid (show ∀ j, j < k + 1 → (F j).n ≤ 1048576 from fun j hj => by
            rcases Nat.lt_succ_iff_lt_or_eq.1 hj with h | rfl
            · exact HD.out j h
            · omega)
          clear HZ0
          generalize (F k).v = vk at *
          go_wp2_with ((go_at_call 32; refine (HZ.out _ (HS.out.below (by repeat' (first | with_reducible exact Below.refl _ _ | with_reducible assumption | with_reducible refine Below.drew ?_ | with_reducible refine Below.drewN ?_ _ | with_reducible refine Below.alloc ?_ ?_ _ | with_reducible refine Below.setCell ?_ ?_ _ | with_reducible refine Below.setRow ?_ ?_ _ | with_reducible refine below_step (by assumption) ?_ ?_ | (show (_ : Nat) ≤ _; first | omega | (simp <;> omega)))) (Nat.le_refl _))).mono ?_; rintro e w1 ⟨rfl, hb1⟩; have r1 := keep_rowA hb1; have f1 := keep_frA hb1; have s1 := hb1.size; (try simp only [World.size_alloc, World.size_setCell, setRow_size, World.size_drew, size_drewNm] at r1 f1 s1)))
          go_roundw
          case rel => first | exact ⟨k + 1, l - ((F k).n : Int), by omega, by go_num, rfl, by omega, by repeat' (first | with_reducible exact Below.refl _ _ | with_reducible assumption | with_reducible refine Below.drew ?_ | with_reducible refine Below.drewN ?_ _ | with_reducible refine Below.alloc ?_ ?_ _ | with_reducible refine Below.setCell ?_ ?_ _ | with_reducible refine Below.setRow ?_ ?_ _ | with_reducible refine below_step (by assumption) ?_ ?_ | (show (_ : Nat) ≤ _; first | omega | (simp <;> omega))), HN.out⟩ | ((repeat (with_reducible apply Exists.intro)); refine And.intro ?_ ?_; rotate_left; (focus ((repeat' (with_reducible apply And.intro)) <;> rfl)); exact ⟨k + 1, l - ((F k).n : Int), by omega, by go_num, rfl, by omega, by repeat' (first | with_reducible exact Below.refl _ _ | with_reducible assumption | with_reducible refine Below.drew ?_ | with_reducible refine Below.drewN ?_ _ | with_reducible refine Below.alloc ?_ ?_ _ | with_reducible refine Below.setCell ?_ ?_ _ | with_reducible refine Below.setRow ?_ ?_ _ | with_reducible refine below_step (by assumption) ?_ ?_ | (show (_ : Nat) ≤ _; first | omega | (simp <;> omega))), HN.out⟩)
          case measure => simp [intOf]; omega
      · have hke : k = n := by omega
        subst hke
        go_wp2
        go_ret
        exact ⟨l, rfl, .inr ⟨by omega, hn2, HD.out⟩, by omega, by repeat' (first | with_reducible exact Below.refl _ _ | with_reducible assumption | with_reducible refine Below.drew ?_ | with_reducible refine Below.drewN ?_ _ | with_reducible refine Below.alloc ?_ ?_ _ | with_reducible refine Below.setCell ?_ ?_ _ | with_reducible refine Below.setRow ?_ ?_ _ | with_reducible refine below_step (by assumption) ?_ ?_ | (show (_ : Nat) ≤ _; first | omega | (simp <;> omega)))⟩
theorem mark_info : ∃ i z, Try.prog.info? 70 = some i ∧ i.zero = some z ∧ i.size = 2 ∧ i.bytes = 32 ∧ z.cells.size = 2 := by
  have h : (match Try.prog.info? 70 with | some i => (match i.zero with | some z => i.size == 2 && i.bytes == 32 && z.cells.size == 2 | none => false) | none => false) = true := by kernel_rfl
  split at h
  · rename_i i hi
    split at h
    · rename_i z hz
      simp only [Bool.and_eq_true, beq_iff_eq] at h
      exact ⟨i, z, hi, hz, h.1.1, h.1.2, h.2⟩
    · cases h
  · cases h
theorem mark_made : ∃ Z : Nat → Array Value, ∀ n, (Z n).size = n * 2 ∧ (n ≤ 1048576 → ∀ w : World, (Instr.makeSlice 47 (.int .i64 (n : Int)) (.int .i64 (n : Int))).run Try.prog w = .ok (.slice (some ⟨w.heap.size, 0, none⟩) n n) (w.alloc (.cells (Z n) 70))) := by
  obtain ⟨i0, z0, hi0, hz0, hs0, hb0, hc0⟩ := mark_info
  refine ⟨fun n => madeCells z0.cells (n * 2), fun n => ⟨size_madeCells _ _, fun hn w => ?_⟩⟩
  have := run_make (P := Try.prog) w 47 70 i0 z0 Try.underlying47 hi0 hz0 .i64 .i64 n n (by omega) (by omega) (by rw [hb0]; omega) (by omega)
  rw [hs0] at this
  simpa using this
def setV (F : Nat → Mk) (G : Nat → Value) (k : Nat) : Mk := ⟨(F k).col, G k, (F k).n, (F k).f⟩
def upV (G : Nat → Value) (k : Nat) (u : Value) : Nat → Value := fun i => if i = k then u else G i
theorem put_mark {d : Array Value} {n k : Nat} {F : Nat → Mk} {G : Nat → Value} {u : Value} (hds : d.size = n * 2) (hk : k < n) (h : ∀ i, i < k → ∀ j, j < 2 → d[i * 2 + j]? = some (mkV (setV F G) i j)) :
    ∀ i, i < k + 1 → ∀ j, j < 2 → (splice d (k * 2) #[.int .i8 (F k).col, u])[i * 2 + j]? = some (mkV (setV F (upV G k u)) i j) := by
  intro i hi j hj
  have hs2 : (#[Value.int .i8 (F k).col, u] : Array Value).size = 2 := rfl
  rw [splice_get _ _ _ _ (by rw [hs2]; omega), hs2]
  by_cases hik : i = k
  · subst hik
    rw [if_pos (by omega), show i * 2 + j - i * 2 = j by omega]
    unfold mkV setV upV
    match j, hj with
    | 0, _ => rfl
    | 1, _ => simp
  · rw [if_neg (by omega), h i (by omega) j hj]
    unfold mkV setV upV
    simp only [if_neg hik]
theorem put_cells {w : World} {b k : Nat} {F : Nat → Mk} {G : Nat → Value} {u : Value} (h : ∀ i, i < k → OwnK .i8 2 w b (G i) (F i).n (F i).f) (hu : OwnK .i8 2 w b u (F k).n (F k).f) : ∀ i, i < k + 1 → OwnK .i8 2 w b (upV G k u i) (F i).n (F i).f := fun i hi => by
  unfold upV
  by_cases hik : i = k
  · subst hik; rw [if_pos rfl]; exact hu
  · rw [if_neg hik]; exact h i (by omega)
set_option maxHeartbeats 4000000 in
theorem toMarkS_any (v : Value) (n : Nat) (F : Nat → Mk) (hn : n ≤ 1048576) (hF : ∀ k, k < n → (F k).n ≤ 1048576) (w : World) (h : SlM w v n F) :
    Calls Try.prog 15 #[v] w fun e w' => ∃ v' G, e = .returned v' ∧ OwnM w' w.heap.size v' n (setV F G) ∧ Below w.heap.size w w' := by
  obtain ⟨Z, hZ⟩ := mark_made
  have hzs := (hZ n).1
  have hmk := (hZ n).2 hn
  clear hZ
  generalize Z n = z at hzs hmk
  obtain ⟨a, cap, rfl⟩ := h.1.len
  have HH := Lib.hid h
  have HF := Lib.hid hF
  clear h hF
  go_enter Try.func15, Try.ntmps15
  go_wp2
  go_loopw [4] (fun i wr => ∃ (k : Nat) (d : Array Value) (G : Nat → Value), k ≤ n ∧ i = .int .i64 k ∧ Below w.heap.size w wr ∧ w.heap.size + 1 ≤ wr.heap.size ∧ frOf wr w.heap.size = (0, 0) ∧ rowOf wr w.heap.size = d ∧ d.size = n * 2 ∧ (∀ i, i < k → ∀ j, j < 2 → d[i * 2 + j]? = some (mkV (setV F G) i j)) ∧ ∀ i, i < k → OwnK .i8 2 wr (w.heap.size + 1) (G i) (F i).n (F i).f) (fun i wr => n - (intOf i).toNat)
  case atStart => exact ⟨0, z, fun _ => .slice none 0 0, by omega, rfl, by repeat' (first | with_reducible exact Below.refl _ _ | with_reducible assumption | with_reducible refine Below.drew ?_ | with_reducible refine Below.drewN ?_ _ | with_reducible refine Below.alloc ?_ ?_ _ | with_reducible refine Below.setCell ?_ ?_ _ | with_reducible refine Below.setRow ?_ ?_ _ | with_reducible refine below_step (by assumption) ?_ ?_ | (show (_ : Nat) ≤ _; first | omega | (simp <;> omega))), by simp, by (go_simp <;> (intros; omega)), by (go_simp <;> (intros; omega)), hzs, fun j hj => absurd hj (by omega), fun j hj => absurd hj (by omega)⟩
  case round =>
    obtain ⟨k, d, G, hk, rfl, hb, hsz, hfr, hrd, hds, hd, hc⟩ := hrel
    have HD := Lib.hid hd
    have HC := Lib.hid hc
    clear hd hc
    by_cases hlt : k < n
    · obtain ⟨g, o, cap', hv, hg, hRs, hcells⟩ := HH.out.1.pos (by omega)
      simp only [Value.slice.injEq] at hv
      obtain ⟨rfl, -, rfl⟩ := hv
      have hr1 := keep_row hb hg
      have hw1 : g < wr.heap.size := Nat.lt_of_lt_of_le hg hb.size
      have he : rowExt (rowOf w g) (o + k * 2) 2 = #[.int .i8 (F k).col, (F k).v] := mk_ext2 (hcells k hlt)
      have HP := Lib.hid (fun u => put_mark (u := u) hds hlt HD.out)
      have HS := Lib.hid (HH.out.2 k hlt)
      have HT0 := fun w h => toMark_any (F k).col (F k).v (F k).n (F k).f (HF.out k hlt) w h
      have HT := Lib.hid HT0
      obtain ⟨R, hR⟩ : ∃ R, rowOf w g = R := ⟨_, rfl⟩
      rw [hR] at hr1 he hRs
      have hRk : o + k * 2 + 2 ≤ R.size := by omega
      have hlt2 : (k : Int) < (n : Int) := by omega
      clear hcells hR HT0
      generalize hvk : (F k).v = vk at *
      generalize hck : (F k).col = ck at *
      go_wp2_with (go_at_call 34; refine (HT.out _ (HS.out.below (by repeat' (first | with_reducible exact Below.refl _ _ | with_reducible assumption | with_reducible refine Below.drew ?_ | with_reducible refine Below.drewN ?_ _ | with_reducible refine Below.alloc ?_ ?_ _ | with_reducible refine Below.setCell ?_ ?_ _ | with_reducible refine Below.setRow ?_ ?_ _ | with_reducible refine below_step (by assumption) ?_ ?_ | (show (_ : Nat) ≤ _; first | omega | (simp <;> omega)))) (Nat.le_refl _))).mono ?_; rintro e wt ⟨vt, rfl, ho, hbt⟩; obtain ⟨at0, capt, rfl⟩ := ho.len; have r_hbt := keep_rowA hbt; have f_hbt := keep_frA hbt; have s_hbt := hbt.size; (try simp only [World.size_alloc, World.size_setCell, setRow_size, World.size_drew, size_drewNm] at r_hbt f_hbt s_hbt); have HO := Lib.hid (ho.down (b' := w.heap.size + 1) (by first | omega | (simp <;> omega))); clear ho)
      have HK := Lib.hid (show ∀ i, i < k + 1 → OwnK .i8 2 wt (w.heap.size + 1) (upV G k (.slice at0 (F k).n capt) i) (F i).n (F i).f from put_cells (fun i hi => (HC.out i hi).below (by repeat' (first | with_reducible exact Below.refl _ _ | with_reducible assumption | with_reducible refine Below.drew ?_ | with_reducible refine Below.drewN ?_ _ | with_reducible refine Below.alloc ?_ ?_ _ | with_reducible refine Below.setCell ?_ ?_ _ | with_reducible refine Below.setRow ?_ ?_ _ | with_reducible refine below_step (by assumption) ?_ ?_ | (show (_ : Nat) ≤ _; first | omega | (simp <;> omega)))) (Nat.le_refl _)) HO.out)
      go_roundw
      case rel => exact ⟨k + 1, splice d (k * 2) #[.int .i8 ck, .slice at0 (F k).n capt], upV G k (.slice at0 (F k).n capt), by omega, by go_num, by repeat' (first | with_reducible exact Below.refl _ _ | with_reducible assumption | with_reducible refine Below.drew ?_ | with_reducible refine Below.drewN ?_ _ | with_reducible refine Below.alloc ?_ ?_ _ | with_reducible refine Below.setCell ?_ ?_ _ | with_reducible refine Below.setRow ?_ ?_ _ | with_reducible refine below_step (by assumption) ?_ ?_ | (show (_ : Nat) ≤ _; first | omega | (simp <;> omega))), by simp; omega, by (go_simp <;> (intros; omega)), by (go_simp <;> (intros; omega)), by rw [splice_size]; exact hds, HP.out _, fun i hi => (HK.out i hi).other (by simp) (fun q h1 h2 => by
          have hq : q ≠ w.heap.size := by omega
          exact ⟨by go_simp, by go_simp⟩)⟩
      case measure => simp [intOf]; omega
    · have hke : k = n := by omega
      subst hke
      go_wp2
      go_ret
      exact ⟨_, G, rfl, ⟨.inr ⟨_, _, rfl, Nat.le_refl _, by omega, hfr, by rw [hrd]; omega, fun i hi j hj => by rw [hrd]; exact HD.out i hi j hj⟩, fun i hi => (HC.out i hi).down (by omega)⟩, by repeat' (first | with_reducible exact Below.refl _ _ | with_reducible assumption | with_reducible refine Below.drew ?_ | with_reducible refine Below.drewN ?_ _ | with_reducible refine Below.alloc ?_ ?_ _ | with_reducible refine Below.setCell ?_ ?_ _ | with_reducible refine Below.setRow ?_ ?_ _ | with_reducible refine below_step (by assumption) ?_ ?_ | (show (_ : Nat) ≤ _; first | omega | (simp <;> omega)))⟩
set_option maxHeartbeats 2000000 in
theorem eqMarkS_own (v1 v2 : Value) (n b1 b2 : Nat) (F : Nat → Mk) (G1 G2 : Nat → Value) (hn : n < 1099511627776) (hF : ∀ k, k < n → (F k).n ≤ 1048576) (w : World) (h1 : OwnM w b1 v1 n (setV F G1)) (h2 : OwnM w b2 v2 n (setV F G2)) :
    Calls Try.prog 17 #[v1, v2] w fun e w' => e = .returned (.bool true) ∧ Below w.heap.size w w' := by
  rcases Nat.eq_zero_or_pos n with hz | hp
  · subst hz
    obtain ⟨a1, c1, rfl⟩ := h1.1.len
    obtain ⟨a2, c2, rfl⟩ := h2.1.len
    clear h1 h2
    go_enter Try.func17, Try.ntmps17
    go_wp2
    go_loopw [5] (fun i wr => i = .int .i64 (0 : Nat) ∧ Below w.heap.size w wr) (fun i wr => 0)
    case atStart => exact ⟨rfl, by repeat' (first | with_reducible exact Below.refl _ _ | with_reducible assumption | with_reducible refine Below.drew ?_ | with_reducible refine Below.drewN ?_ _ | with_reducible refine Below.alloc ?_ ?_ _ | with_reducible refine Below.setCell ?_ ?_ _ | with_reducible refine Below.setRow ?_ ?_ _ | with_reducible refine below_step (by assumption) ?_ ?_ | (show (_ : Nat) ≤ _; first | omega | (simp <;> omega)))⟩
    case round =>
      obtain ⟨rfl, hb⟩ := hrel
      go_wp2
      go_ret
      exact ⟨rfl, by repeat' (first | with_reducible exact Below.refl _ _ | with_reducible assumption | with_reducible refine Below.drew ?_ | with_reducible refine Below.drewN ?_ _ | with_reducible refine Below.alloc ?_ ?_ _ | with_reducible refine Below.setCell ?_ ?_ _ | with_reducible refine Below.setRow ?_ ?_ _ | with_reducible refine below_step (by assumption) ?_ ?_ | (show (_ : Nat) ≤ _; first | omega | (simp <;> omega)))⟩
  · obtain ⟨g1, c1, rfl, -, hg1, -, hs1, ht1⟩ := h1.1.pos hp
    obtain ⟨g2, c2, rfl, -, hg2, -, hs2, ht2⟩ := h2.1.pos hp
    have HX := Lib.hid (fun k (hk : k < n) => And.intro (mk_ext2 (o := 0) (by rw [Nat.zero_add]; exact ht1 k hk)) (mk_ext2 (o := 0) (by rw [Nat.zero_add]; exact ht2 k hk)))
    have H1 := Lib.hid h1.2
    have H2 := Lib.hid h2.2
    obtain ⟨R1, hR1⟩ : ∃ R, rowOf w g1 = R := ⟨_, rfl⟩
    obtain ⟨R2, hR2⟩ : ∃ R, rowOf w g2 = R := ⟨_, rfl⟩
    rw [hR1, hR2] at HX
    rw [hR1] at hs1
    rw [hR2] at hs2
    clear h1 h2 ht1 ht2
    go_enter Try.func17, Try.ntmps17
    go_wp2
    go_loopw [5] (fun i wr => ∃ k : Nat, k ≤ n ∧ i = .int .i64 k ∧ Below w.heap.size w wr) (fun i wr => n - (intOf i).toNat)
    case atStart => exact ⟨0, by omega, rfl, by repeat' (first | with_reducible exact Below.refl _ _ | with_reducible assumption | with_reducible refine Below.drew ?_ | with_reducible refine Below.drewN ?_ _ | with_reducible refine Below.alloc ?_ ?_ _ | with_reducible refine Below.setCell ?_ ?_ _ | with_reducible refine Below.setRow ?_ ?_ _ | with_reducible refine below_step (by assumption) ?_ ?_ | (show (_ : Nat) ≤ _; first | omega | (simp <;> omega)))⟩
    case round =>
      obtain ⟨k, hk, rfl, hb⟩ := hrel
      have hr1 := (keep_row hb hg1).trans hR1
      have hr2 := (keep_row hb hg2).trans hR2
      have hw1 : g1 < wr.heap.size := Nat.lt_of_lt_of_le hg1 hb.size
      have hw2 : g2 < wr.heap.size := Nat.lt_of_lt_of_le hg2 hb.size
      have hsz := hb.size
      clear hR1 hR2
      by_cases hlt : k < n
      · obtain ⟨e1, e2⟩ := HX.out k hlt
        rw [Nat.zero_add] at e1 e2
        have HE := Lib.hid (fun w h1 h2 => eqMark_own (F k).col (G1 k) (G2 k) (F k).n b1 b2 (F k).f (by have := hF k hlt; omega) w h1 h2)
        have HA := Lib.hid (H1.out k hlt)
        have HB := Lib.hid (H2.out k hlt)
        change rowExt R1 (k * 2) 2 = #[.int .i8 (F k).col, G1 k] at e1
        change rowExt R2 (k * 2) 2 = #[.int .i8 (F k).col, G2 k] at e2
        have hlt2 : (k : Int) < (n : Int) := by omega
        have hq1 : k * 2 + 2 ≤ R1.size := by omega
        have hq2 : k * 2 + 2 ≤ R2.size := by omega
        clear hF
        go_wp2
        go_still_tail 8, (by kernel_rfl)
        change wpList _ _ _ _ _ (World.drew _)
        go_wp2_with (go_at_call 42; refine (HE.out _ (HA.out.below (by repeat' (first | with_reducible exact Below.refl _ _ | with_reducible assumption | with_reducible refine Below.drew ?_ | with_reducible refine Below.drewN ?_ _ | with_reducible refine Below.alloc ?_ ?_ _ | with_reducible refine Below.setCell ?_ ?_ _ | with_reducible refine Below.setRow ?_ ?_ _ | with_reducible refine below_step (by assumption) ?_ ?_ | (show (_ : Nat) ≤ _; first | omega | (simp <;> omega)))) (Nat.le_refl _)) (HB.out.below (by repeat' (first | with_reducible exact Below.refl _ _ | with_reducible assumption | with_reducible refine Below.drew ?_ | with_reducible refine Below.drewN ?_ _ | with_reducible refine Below.alloc ?_ ?_ _ | with_reducible refine Below.setCell ?_ ?_ _ | with_reducible refine Below.setRow ?_ ?_ _ | with_reducible refine below_step (by assumption) ?_ ?_ | (show (_ : Nat) ≤ _; first | omega | (simp <;> omega)))) (Nat.le_refl _))).mono ?_; rintro e we ⟨rfl, hbe⟩; have r_hbe := keep_rowA hbe; have f_hbe := keep_frA hbe; have s_hbe := hbe.size; (try simp only [World.size_alloc, World.size_setCell, setRow_size, World.size_drew, size_drewNm] at r_hbe f_hbe s_hbe))
        go_roundw
        case rel => first | exact ⟨k + 1, by omega, by go_num, by repeat' (first | with_reducible exact Below.refl _ _ | with_reducible assumption | with_reducible refine Below.drew ?_ | with_reducible refine Below.drewN ?_ _ | with_reducible refine Below.alloc ?_ ?_ _ | with_reducible refine Below.setCell ?_ ?_ _ | with_reducible refine Below.setRow ?_ ?_ _ | with_reducible refine below_step (by assumption) ?_ ?_ | (show (_ : Nat) ≤ _; first | omega | (simp <;> omega)))⟩ | ((repeat (with_reducible apply Exists.intro)); refine And.intro ?_ ?_; rotate_left; (focus ((repeat' (with_reducible apply And.intro)) <;> rfl)); exact ⟨k + 1, by omega, by go_num, by repeat' (first | with_reducible exact Below.refl _ _ | with_reducible assumption | with_reducible refine Below.drew ?_ | with_reducible refine Below.drewN ?_ _ | with_reducible refine Below.alloc ?_ ?_ _ | with_reducible refine Below.setCell ?_ ?_ _ | with_reducible refine Below.setRow ?_ ?_ _ | with_reducible refine below_step (by assumption) ?_ ?_ | (show (_ : Nat) ≤ _; first | omega | (simp <;> omega)))⟩)
        case measure => simp [intOf]; omega
      · clear hr1 hr2
        go_wp2
        go_ret
        exact ⟨rfl, by repeat' (first | with_reducible exact Below.refl _ _ | with_reducible assumption | with_reducible refine Below.drew ?_ | with_reducible refine Below.drewN ?_ _ | with_reducible refine Below.alloc ?_ ?_ _ | with_reducible refine Below.setCell ?_ ?_ _ | with_reducible refine Below.setRow ?_ ?_ _ | with_reducible refine below_step (by assumption) ?_ ?_ | (show (_ : Nat) ≤ _; first | omega | (simp <;> omega)))⟩
end Go.Proofs.Ytkdfkhjoijfcdaa
