/- Several texts in one: StrS MrkN MrkS PmL. -/
import Derived.Test.YtejnejplofddnaaGreatDoorNumS
import Derived.Deep.RegionHeld3
import Derived.Deep.DeepCutAuto
/- The statement's own functions at slices of strings. Written by gen_strs.py. -/
namespace Go.Proofs.YtejnejplofddnaaGreatDoor
open Go.RowKit
set_option linter.unusedVariables false
set_option linter.unusedSimpArgs false
set_option maxRecDepth 100000
set_option maxHeartbeats 4000000 in
theorem eqStringS_any (v1 v2 : Value) (b1 b2 : Nat) (A B : List (List UInt8)) (hA : A.length ≤ 1048576) (hB : B.length ≤ 1048576) (w : World) (h1 : OwnT w b1 v1 A) (h2 : OwnT w b2 v2 B) :
    Calls Tryz.prog 30 #[v1, v2] w fun e w' => e = .returned (.bool (eqL A B)) ∧ Below w.heap.size w w' := by
  have H1 := Lib.hid h1
  have H2 := Lib.hid h2
  obtain ⟨a1, c1, rfl⟩ := h1.len
  obtain ⟨a2, c2, rfl⟩ := h2.len
  clear h1 h2
  by_cases hne : A.length = B.length
  case neg =>
    have hn1 : ((A.length : Int) == (B.length : Int)) = false := by rw [beq_eq_false_iff_ne]; omega
    have hn2 : ¬ (A.length : Int) = (B.length : Int) := by omega
    have hn3 : ((A.length : Int) != (B.length : Int)) = true := by rw [bne, hn1]; rfl
    have HV := Lib.hid (eqL_len hne)
    go_enter Tryz.func30, Tryz.ntmps30
    go_wp2
    go_ret
    exact ⟨by rw [HV.out]; rfl, by repeat' (first | with_reducible exact Below.refl _ _ | with_reducible assumption | with_reducible refine Below.drew ?_ | with_reducible refine Below.drewN ?_ _ | with_reducible refine Below.alloc ?_ ?_ _ | with_reducible refine Below.setCell ?_ ?_ _ | with_reducible refine Below.setRow ?_ ?_ _ | with_reducible refine below_step (by assumption) ?_ ?_ | (show (_ : Nat) ≤ _; first | omega | (simp <;> omega)))⟩
  have HE := Lib.hid (fun ha => eqL_all (A := A) (B := B) hne ha)
  have HO := Lib.hid (fun j a b (ha : A[j]? = some a) (hb : B[j]? = some b) (hn : a ≠ b) => eqL_no ha hb hn)
  have hnB : ((A.length : Int) != (B.length : Int)) = false := by rw [show (A.length : Int) = (B.length : Int) by omega]; simp
  go_enter Tryz.func30, Tryz.ntmps30
  go_wp2
  go_loopw [5] (fun z wr => ∃ k : Nat, k ≤ A.length ∧ z = .int .i64 k ∧ Below w.heap.size w wr ∧ ∀ j a b, j < k → A[j]? = some a → B[j]? = some b → a = b) (fun z wr => A.length + 1 - (intOf z).toNat)
  case atStart => exact ⟨0, by omega, rfl, by repeat' (first | with_reducible exact Below.refl _ _ | with_reducible assumption | with_reducible refine Below.drew ?_ | with_reducible refine Below.drewN ?_ _ | with_reducible refine Below.alloc ?_ ?_ _ | with_reducible refine Below.setCell ?_ ?_ _ | with_reducible refine Below.setRow ?_ ?_ _ | with_reducible refine below_step (by assumption) ?_ ?_ | (show (_ : Nat) ≤ _; first | omega | (simp <;> omega))), fun j a b hj => absurd hj (by omega)⟩
  case round =>
    obtain ⟨k, hk, rfl, hb, hal⟩ := hrel
    have HAL := Lib.hid hal
    clear hal
    by_cases hlt : k < A.length
    · obtain ⟨xa, hxa⟩ : ∃ x, A[k]? = some x := ⟨_, List.getElem?_eq_getElem hlt⟩
      obtain ⟨xb, hxb⟩ : ∃ x, B[k]? = some x := ⟨_, List.getElem?_eq_getElem (by omega)⟩
      obtain ⟨g1, c1', hv, hg1, hs1, hc1⟩ := H1.out.at (by omega)
      simp only [Value.slice.injEq] at hv
      obtain ⟨rfl, -, rfl⟩ := hv
      obtain ⟨g2, c2', hv, hg2, hs2, hc2⟩ := H2.out.at (by omega)
      simp only [Value.slice.injEq] at hv
      obtain ⟨rfl, -, rfl⟩ := hv
      have e1 := hc1 k xa hxa
      have e2 := hc2 k xb hxb
      rw [← keep_row hb hg1] at e1
      rw [← keep_row hb hg2] at e2
      have hg1w : g1 < wr.heap.size := by have := hb.size; omega
      have hg2w : g2 < wr.heap.size := by have := hb.size; omega
      have hlt2 : (k : Int) < (A.length : Int) := by omega
      have hlt3 : k < B.length := by omega
      have hlt4 : (k : Int) < (B.length : Int) := by omega
      have hw1 : IntKind.i64.wrap ((k : Int) + 1) = ((k + 1 : Nat) : Int) := by rw [IntWalk.i64_in _ (by omega)]; rfl
      clear hc1 hc2 hs1 hs2 hg1 hg2
      by_cases hx : xa = xb
      · subst hx
        have HN := Lib.hid (show ∀ j a b, j < k + 1 → A[j]? = some a → B[j]? = some b → a = b from fun j a b hj ha hb => by
          rcases Nat.lt_succ_iff_lt_or_eq.1 hj with h | rfl
          · exact HAL.out j a b h ha hb
          · rw [hxa] at ha; rw [hxb] at hb
            exact (Option.some.inj ha).symm.trans (Option.some.inj hb))
        clear hxa hxb
        go_wp2
        go_quiet (fail)
        go_wp2
        go_roundw
        case rel => first | exact ⟨k + 1, by omega, by go_num, by repeat' (first | with_reducible exact Below.refl _ _ | with_reducible assumption | with_reducible refine Below.drew ?_ | with_reducible refine Below.drewN ?_ _ | with_reducible refine Below.alloc ?_ ?_ _ | with_reducible refine Below.setCell ?_ ?_ _ | with_reducible refine Below.setRow ?_ ?_ _ | with_reducible refine below_step (by assumption) ?_ ?_ | (show (_ : Nat) ≤ _; first | omega | (simp <;> omega))), HN.out⟩ | ((repeat (with_reducible apply Exists.intro)); refine And.intro ?_ ?_; rotate_left; (focus ((repeat' (with_reducible apply And.intro)) <;> rfl)); exact ⟨k + 1, by omega, by go_num, by repeat' (first | with_reducible exact Below.refl _ _ | with_reducible assumption | with_reducible refine Below.drew ?_ | with_reducible refine Below.drewN ?_ _ | with_reducible refine Below.alloc ?_ ?_ _ | with_reducible refine Below.setCell ?_ ?_ _ | with_reducible refine Below.setRow ?_ ?_ _ | with_reducible refine below_step (by assumption) ?_ ?_ | (show (_ : Nat) ≤ _; first | omega | (simp <;> omega))), HN.out⟩)
        case measure => simp [intOf]; omega
      · have HV := Lib.hid (HO.out k xa xb hxa hxb hx)
        have h1 : ((tx xa).toList == (tx xb).toList) = false := by rw [tx_list, tx_list, beq_eq_false_iff_ne]; exact hx
        clear hxa hxb
        go_wp2
        go_quiet (fail)
        go_wp2
        go_ret
        exact ⟨by rw [HV.out]; rfl, by repeat' (first | with_reducible exact Below.refl _ _ | with_reducible assumption | with_reducible refine Below.drew ?_ | with_reducible refine Below.drewN ?_ _ | with_reducible refine Below.alloc ?_ ?_ _ | with_reducible refine Below.setCell ?_ ?_ _ | with_reducible refine Below.setRow ?_ ?_ _ | with_reducible refine below_step (by assumption) ?_ ?_ | (show (_ : Nat) ≤ _; first | omega | (simp <;> omega)))⟩
    · have hke : k = A.length := by omega
      subst hke
      have HV := Lib.hid (HE.out (fun j a b hj ha hb => HAL.out j a b hj ha hb))
      go_wp2
      go_ret
      exact ⟨by rw [HV.out]; rfl, by repeat' (first | with_reducible exact Below.refl _ _ | with_reducible assumption | with_reducible refine Below.drew ?_ | with_reducible refine Below.drewN ?_ _ | with_reducible refine Below.alloc ?_ ?_ _ | with_reducible refine Below.setCell ?_ ?_ _ | with_reducible refine Below.setRow ?_ ?_ _ | with_reducible refine below_step (by assumption) ?_ ?_ | (show (_ : Nat) ≤ _; first | omega | (simp <;> omega)))⟩
end Go.Proofs.YtejnejplofddnaaGreatDoor
/- Marks and strings written over: what stays as it was. -/
namespace Go.Proofs.YtejnejplofddnaaGreatDoor
open Go.RowKit
set_option linter.unusedVariables false
set_option linter.unusedSimpArgs false
set_option maxRecDepth 100000
/-- Blocks below b and from M on stay as they were; all rows keep their sizes and frames. -/
structure FrM (b M : Nat) (w w' : World) : Prop where
  os : w'.os = w.os
  tape : w'.tape = w.tape
  output : w'.output = w.output
  size : w.heap.size ≤ w'.heap.size
  block : ∀ q, q < w.heap.size → q < b ∨ M ≤ q → w'.heap[q]? = w.heap[q]?
  shape : ∀ q, q < w.heap.size → frOf w' q = frOf w q ∧ (rowOf w' q).size = (rowOf w q).size
theorem FrM.refl (b M : Nat) (w : World) : FrM b M w w := ⟨rfl, rfl, rfl, Nat.le_refl _, fun _ _ _ => rfl, fun _ _ => ⟨rfl, rfl⟩⟩
theorem FrM.trans {b M : Nat} {x y z : World} (h : FrM b M x y) (k : FrM b M y z) : FrM b M x z :=
  ⟨k.os.trans h.os, k.tape.trans h.tape, k.output.trans h.output, Nat.le_trans h.size k.size, fun q hq hbM => (k.block q (Nat.lt_of_lt_of_le hq h.size) hbM).trans (h.block q hq hbM), fun q hq => by
    obtain ⟨h1, h2⟩ := h.shape q hq
    obtain ⟨k1, k2⟩ := k.shape q (Nat.lt_of_lt_of_le hq h.size)
    exact ⟨k1.trans h1, k2.trans h2⟩⟩
theorem FrM.below {b M : Nat} {x y : World} (h : FrM b M x y) (hb : b ≤ x.heap.size) : Below b x y := ⟨h.os, h.tape, h.output, h.size, fun q hq => h.block q (by omega) (.inl hq)⟩
theorem FrM.of_below {b M : Nat} {x y : World} (h : Below x.heap.size x y) : FrM b M x y :=
  ⟨h.os, h.tape, h.output, h.size, fun q hq _ => h.block q hq, fun q hq => ⟨keep_fr h hq, by rw [keep_row h hq]⟩⟩
theorem FrM.cell {b M : Nat} {x y : World} (h : FrM b M x y) {g : Nat} (hg : b ≤ g ∧ g < M) (i : Nat) (v : Value) : FrM b M x (y.setCell ⟨g, i, none⟩ v) :=
  h.trans ⟨rfl, rfl, rfl, by simp [World.setCell], fun q hq hbM => Below.heap_setCell _ _ _ _ (by show q ≠ g; omega), fun q hq => ⟨fr_setCell _ _ _ _, by
    rw [row_setCell]
    split
    · rename_i e; rw [e]; simp
    · rfl⟩⟩
theorem OwnK.fr {k : IntKind} {s : Nat} {b M B : Nat} {x y : World} {v : Value} {n : Nat} {f : Nat → Int} (h : OwnK k s x B v n f) (hf : FrM b M x y) (hB : M ≤ B ∨ ∀ g cap, v = .slice (some ⟨g, 0, none⟩) n cap → g < b) : OwnK k s y B v n f := by
  rcases h with h | ⟨g, cap, rfl, h1, h2, h3, h4, h5⟩
  · exact .inl h
  · have hbl := hf.block g h2 (by
      rcases hB with hB | hB
      · exact .inr (by omega)
      · exact .inl (hB g cap rfl))
    have hr : rowOf y g = rowOf x g := by unfold rowOf; rw [hbl]
    have hq : frOf y g = frOf x g := by unfold frOf; rw [hbl]
    exact .inr ⟨g, cap, rfl, h1, Nat.lt_of_lt_of_le h2 hf.size, hq.trans h3, by rw [hr]; exact h4, fun j hj => by rw [hr]; exact h5 j hj⟩
/-- A slice that can be written over. -/
def SpS (w : World) (b M : Nat) (v : Value) (n s : Nat) : Prop := (v = .slice none 0 0 ∧ n = 0) ∨ ∃ q cap, v = .slice (some ⟨q, 0, none⟩) n cap ∧ b ≤ q ∧ q < M ∧ q < w.heap.size ∧ frOf w q = (0, 0) ∧ n * s ≤ (rowOf w q).size
theorem SpS.of {k : IntKind} {s : Nat} {w : World} {B M : Nat} {v : Value} {n : Nat} {f : Nat → Int} (h : OwnK k s w B v n f) (hM : w.heap.size ≤ M) : SpS w B M v n s := by
  rcases h with h | ⟨g, cap, rfl, h1, h2, h3, h4, h5⟩
  · exact .inl h
  · exact .inr ⟨g, cap, rfl, h1, by omega, h2, h3, h4⟩
theorem SpS.ofV {s : Nat} {w : World} {B M : Nat} {v : Value} {n : Nat} {V : Nat → Nat → Value} (h : OwnV s w B v n V) (hM : w.heap.size ≤ M) : SpS w B M v n s := by
  rcases h with h | ⟨g, cap, rfl, h1, h2, h3, h4, h5⟩
  · exact .inl h
  · exact .inr ⟨g, cap, rfl, h1, by omega, h2, h3, h4⟩
theorem SpS.fr {w w' : World} {b b' M M' : Nat} {v : Value} {n s : Nat} (h : SpS w b M v n s) (hf : FrM b' M' w w') : SpS w' b M v n s := by
  rcases h with h | ⟨q, cap, rfl, h1, h2, h3, h4, h5⟩
  · exact .inl h
  · obtain ⟨e1, e2⟩ := hf.shape q h3
    exact .inr ⟨q, cap, rfl, h1, h2, Nat.lt_of_lt_of_le h3 hf.size, e1.trans h4, by rw [e2]; exact h5⟩
theorem SpS.len {w : World} {b M : Nat} {v : Value} {n s : Nat} (h : SpS w b M v n s) : ∃ a cap, v = .slice a n cap := by
  rcases h with ⟨rfl, rfl⟩ | ⟨q, cap, rfl, -⟩ <;> exact ⟨_, _, rfl⟩
set_option maxHeartbeats 4000000 in
theorem markSpotS_fr (v : Value) (n b M : Nat) (k0 : Int) (hk0 : 0 ≤ k0 ∧ k0 ≤ 8796093022208) (hn : n ≤ 1048576) (w : World) (h : SpS w b M v n 2) :
    Calls Tryz.prog 81 #[v, .int .i64 k0] w fun e w' => e = .returned (.int .i64 (k0 + ((n * 2 : Nat) : Int))) ∧ FrM b M w w' ∧ ∀ q, (∀ q1 c1, v = .slice (some ⟨q1, 0, none⟩) n c1 → 0 < n → q ≠ q1) → rowOf w' q = rowOf w q := by
  have HH := Lib.hid h
  obtain ⟨a, cap, rfl⟩ := h.len
  clear h
  go_enter Tryz.func81, Tryz.ntmps81
  go_wp2
  go_loopw [5, 1] (fun i u wr => ∃ k : Nat, k ≤ n ∧ i = .int .i64 k ∧ u = .int .i64 (k0 + ((k * 2 : Nat) : Int)) ∧ FrM b M w wr ∧ ∀ q, (∀ q1 c1, Value.slice a n cap = .slice (some ⟨q1, 0, none⟩) n c1 → 0 < n → q ≠ q1) → rowOf wr q = rowOf w q) (fun i u wr => n + 1 - (intOf i).toNat)
  case atStart => exact ⟨0, by omega, rfl, by go_num, FrM.refl _ _ _, fun q _ => rfl⟩
  case round =>
    obtain ⟨k, hk, rfl, rfl, hfm, hrw⟩ := hrel
    have HFM := Lib.hid hfm
    have HRW := Lib.hid hrw
    have hszw := hfm.size
    clear hfm hrw
    by_cases hlt : k < n
    · rcases HH.out with ⟨-, h0⟩ | ⟨q0, cap', hv, hq1, hq2, hq3, hfr, hsz⟩
      · omega
      simp only [Value.slice.injEq] at hv
      obtain ⟨rfl, -, rfl⟩ := hv
      obtain ⟨f1, f2⟩ := HFM.out.shape q0 hq3
      rw [hfr] at f1
      obtain ⟨d, hd⟩ : ∃ d, rowOf wr q0 = d := ⟨_, rfl⟩
      rw [hd] at f2
      have hds : n * 2 ≤ d.size := by omega
      have hgw : q0 < wr.heap.size := by omega
      have hlt2 : (k : Int) < (n : Int) := by omega
      have hk2 : k * 2 < d.size := by omega
      have hk3 : k * 2 + 1 < d.size := by omega
      obtain ⟨u0, hu0⟩ : ∃ u, d[k * 2]? = some u := ⟨_, Array.getElem?_eq_getElem hk2⟩
      obtain ⟨u1, hu1⟩ : ∃ u, d[k * 2 + 1]? = some u := ⟨_, Array.getElem?_eq_getElem hk3⟩
      have hw1 : IntKind.i64.wrap ((k : Int) + 1) = ((k + 1 : Nat) : Int) := by rw [IntWalk.i64_in _ (by omega)]; rfl
      have hw2 : IntKind.i64.wrap (k0 + ((k * 2 : Nat) : Int) + 1) = k0 + ((k * 2 : Nat) : Int) + 1 := IntWalk.i64_in _ (by omega)
      have hw3 : IntKind.i64.wrap (k0 + ((k * 2 : Nat) : Int) + 1 + 1) = k0 + (((k + 1) * 2 : Nat) : Int) := by rw [IntWalk.i64_in _ (by omega)]; omega
      have hqc : b ≤ q0 ∧ q0 < M := ⟨hq1, hq2⟩
      clear f2 hsz hfr
      generalize hc : k0 + ((k * 2 : Nat) : Int) = kk at *
      go_wp2
      go_roundw
      case rel => exact ⟨k + 1, by omega, by go_num, by first | rfl | (rw [hw3]) | go_num, (HFM.out.cell hqc _ _).cell hqc _ _, fun q hq => by rw [row_setCell, if_neg (hq q0 _ rfl (by omega)), row_setCell, if_neg (hq q0 _ rfl (by omega))]; exact HRW.out q hq⟩
      case measure => simp [intOf]; omega
    · have hke : k = n := by omega
      subst hke
      go_wp2
      go_ret
      exact ⟨rfl, HFM.out, HRW.out⟩
set_option maxHeartbeats 4000000 in
theorem markMarkS_fr (g cap n b M : Nat) (N : Nat → Nat) (G : Nat → Value) (k0 : Int) (hk0 : 1 ≤ k0 ∧ k0 ≤ 1048576) (hn : n ≤ 1048576) (hN : ∀ i, i < n → N i ≤ 1048576) (w : World) (hg : g < w.heap.size) (hgM : b ≤ g ∧ g < M) (hfr : frOf w g = (0, 0)) (hsz : n * 2 ≤ (rowOf w g).size) (hc : ∀ i, i < n → (rowOf w g)[i * 2 + 1]? = some (G i)) (hS : ∀ i, i < n → SpS w b M (G i) (N i) 2) (hne : ∀ i, i < n → ∀ q1 c1, G i = .slice (some ⟨q1, 0, none⟩) (N i) c1 → 0 < N i → g ≠ q1) :
    Calls Tryz.prog 33 #[.slice (some ⟨g, 0, none⟩) n cap, .int .i64 k0] w fun e w' => ∃ k1 : Int, e = .returned (.int .i64 k1) ∧ (1 ≤ k1 ∧ k1 ≤ 8796093022208) ∧ FrM b M w w' := by
  have HC := Lib.hid hc
  have HS := Lib.hid hS
  have HN := Lib.hid hN
  have HNE := Lib.hid hne
  clear hc hS hN hne
  go_enter Tryz.func33, Tryz.ntmps33
  go_wp2
  go_loopw [5, 1] (fun i u wr => ∃ (k : Nat) (kk : Int), k ≤ n ∧ i = .int .i64 k ∧ u = .int .i64 kk ∧ (1 ≤ kk ∧ kk ≤ 1048576 + (k : Int) * 2097153) ∧ FrM b M w wr ∧ ∀ i, i < n → (rowOf wr g)[i * 2 + 1]? = some (G i)) (fun i u wr => n + 1 - (intOf i).toNat)
  case atStart => exact ⟨0, k0, by omega, rfl, rfl, by omega, FrM.refl _ _ _, HC.out⟩
  case round =>
    obtain ⟨k, kk, hk, rfl, rfl, hkk, hfm, hrc⟩ := hrel
    have HFM := Lib.hid hfm
    have HRC := Lib.hid hrc
    have hszw := hfm.size
    obtain ⟨f1, f2⟩ := hfm.shape g hg
    rw [hfr] at f1
    by_cases hlt : k < n
    · obtain ⟨d, hd⟩ : ∃ d, rowOf wr g = d := ⟨_, rfl⟩
      rw [hd] at f2
      have hds : n * 2 ≤ d.size := by omega
      have hgw : g < wr.heap.size := by omega
      have hlt2 : (k : Int) < (n : Int) := by omega
      have hk2 : k * 2 < d.size := by omega
      have hu1 := hrc k hlt
      rw [hd] at hu1
      obtain ⟨u0, hu0⟩ : ∃ u, d[k * 2]? = some u := ⟨_, Array.getElem?_eq_getElem hk2⟩
      have hNk := HN.out k hlt
      have hSk := HS.out k hlt
      obtain ⟨ai, ci, hGk⟩ := hSk.len
      have hnk := HNE.out k hlt
      rw [hGk] at hu1 hSk hnk
      have hd2 : ∀ v : Value, (d.setIfInBounds (k * 2) v)[k * 2 + 1]? = some (.slice ai (N k) ci) := fun v => by rw [Array.getElem?_setIfInBounds_ne (by omega)]; exact hu1
      have hw1 : IntKind.i64.wrap ((k : Int) + 1) = ((k + 1 : Nat) : Int) := by rw [IntWalk.i64_in _ (by omega)]; rfl
      have hw2 : IntKind.i64.wrap (kk + 1) = kk + 1 := IntWalk.i64_in _ (by omega)
      have hgc := hgM
      have HMK := Lib.hid (fun w h => markSpotS_fr (.slice ai (N k) ci) (N k) b M (kk + 1) (by omega) hNk w h)
      have HSK := Lib.hid hSk
      clear hrc hSk hfm f2 hGk
      go_wp2_with (go_at_call 81; refine (HMK.out _ (HSK.out.fr (HFM.out.cell hgc _ _))).mono ?_; rintro e w1 ⟨rfl, hf1, hr1⟩)
      have hf2 : FrM b M w w1 := (HFM.out.cell hgc (k * 2) (.int .i8 (IntKind.i8.wrap kk))).trans hf1
      have hrg := hr1 g hnk
      rw [row_setCell, if_pos rfl, hd] at hrg
      go_roundw
      case rel => exact ⟨k + 1, kk + 1 + ((N k * 2 : Nat) : Int), by omega, by go_num, rfl, by omega, hf2, fun i hi => by rw [hrg, Array.getElem?_setIfInBounds_ne (by omega), ← hd]; exact HRC.out i hi⟩
      case measure => simp [intOf]; omega
    · have hke : k = n := by omega
      subst hke
      go_wp2
      go_ret
      exact ⟨kk, rfl, by omega, HFM.out⟩
theorem markMarkS_any (v : Value) (n b M : Nat) (F : Nat → Mk) (hn : n ≤ 1048576) (hN : ∀ i, i < n → (F i).n ≤ 1048576) (wM : World) (h : OwnM wM b v n F) (hM : wM.heap.size ≤ M) (w : World) (hb : Below wM.heap.size wM w) :
    Calls Tryz.prog 33 #[v, .int .i64 1] w fun e w' => ∃ k1 : Int, e = .returned (.int .i64 k1) ∧ (1 ≤ k1 ∧ k1 ≤ 8796093022208) ∧ FrM b M w w' := by
  have hsz := hb.size
  rcases Nat.eq_zero_or_pos n with h0 | h0
  · subst h0
    obtain ⟨a, cap, rfl⟩ := h.1.len
    clear h hN
    go_enter Tryz.func33, Tryz.ntmps33
    go_wp2
    go_loopw [5, 1] (fun i u wr => i = .int .i64 (0 : Nat) ∧ u = .int .i64 1 ∧ wr = w) (fun i u wr => 0)
    case atStart => exact ⟨rfl, rfl, rfl⟩
    case round =>
      obtain ⟨rfl, rfl, rfl⟩ := hrel
      go_wp2
      go_ret
      exact ⟨1, rfl, by omega, FrM.refl _ _ _⟩
  · obtain ⟨g, cap, rfl, hbg, hg, hfr, hs, hc⟩ := h.1.pos h0
    have hc1 : ∀ i, i < n → (rowOf wM g)[i * 2 + 1]? = some (F i).v := fun i hi => by have := hc i hi 1 (by omega); simpa [mkV] using this
    refine markMarkS_fr g cap n b M (fun i => (F i).n) (fun i => (F i).v) 1 (by omega) hn hN w (by omega) ⟨hbg, by omega⟩ ((keep_fr hb hg).trans hfr) (by rw [keep_row hb hg]; exact hs) (fun i hi => by rw [keep_row hb hg]; exact hc1 i hi) (fun i hi => (SpS.of (h.2 i hi) hM).fr (FrM.of_below (b := 0) (M := 0) hb)) (fun i hi q1 c1 hv hni e => ?_)
    obtain ⟨q, c, hv2, -, -, -, -, hq⟩ := (h.2 i hi).pos hni
    rw [hv2] at hv
    simp only [Value.slice.injEq, Option.some.injEq, Addr.mk.injEq] at hv
    obtain ⟨⟨rfl, -, -⟩, -⟩ := hv
    have h1 := hq 1 (by omega)
    rw [← e] at h1
    have h2 := hc1 0 h0
    obtain ⟨a0, c0, hv0⟩ := (h.2 0 h0).len
    rw [hv0] at h2
    rw [Nat.zero_mul, Nat.zero_add] at h2
    rw [h1] at h2
    cases h2
@[go_sem] theorem tc_109 : (ByteArray.mk #[109]) = tx [109] := rfl
@[go_sem] theorem tc_m0 : (ByteArray.mk #[109, 48]) = tx [109, 48] := rfl
@[go_sem] theorem conv1_N (w : World) (g cap : Nat) : (convert 22 9 (.slice (some ⟨g, 0, none⟩) 1 cap)).run Tryz.prog w = conv1 ((rowOf w g)[0]?) w ((convBX 22 9 (.slice (some ⟨g, 0, none⟩) 1 cap)).run Tryz.prog w) := run_conv1 w 22 9 5 Tryz.underlying22 Tryz.underlying5 Tryz.underlying9 g cap
@[go_sem] theorem conv1_M (n : Int) (w : World) (r : Result Value) : conv1 (some (.int .u8 n)) w r = if 0 ≤ n ∧ n < 256 then .ok (.string (tx [by8 n])) w else r := rfl
set_option maxHeartbeats 4000000 in
/-- The text of a number that a mark leaves. -/
theorem markText_some (n : Nat) (hn : 1 ≤ n ∧ n ≤ 8796097216512) (w : World) :
    Calls Tryz.prog 82 #[.int .i64 (n : Int)] w fun e w' => ∃ l, e = .returned (.string (tx l)) ∧ Below w.heap.size w w' := by
  have h0 : ¬ (n : Int) ≤ 0 := by omega
  have h1 : ¬ n = 0 := by omega
  go_enter Tryz.func82, Tryz.ntmps82
  go_wp2
  go_loopw [0, 3] (fun i u wr => ∃ (m : Nat) (l : List UInt8), i = .int .i64 (m : Int) ∧ u = .string (tx l) ∧ l.length + m ≤ n ∧ Below w.heap.size w wr) (fun i u wr => (intOf i).toNat)
  case atStart => exact ⟨n, [], rfl, rfl, by simp, by repeat' (first | with_reducible exact Below.refl _ _ | with_reducible assumption | with_reducible refine Below.drew ?_ | with_reducible refine Below.drewN ?_ _ | with_reducible refine Below.alloc ?_ ?_ _ | with_reducible refine Below.setCell ?_ ?_ _ | with_reducible refine Below.setRow ?_ ?_ _ | with_reducible refine below_step (by assumption) ?_ ?_ | (show (_ : Nat) ≤ _; first | omega | (simp <;> omega)))⟩
  case round =>
    obtain ⟨m, l, rfl, rfl, hl, hb⟩ := hrel
    have hszw := hb.size
    by_cases hm : 0 < m
    · have hm2 : (0 : Int) < (m : Int) := by omega
      have hq : (m : Int).tdiv 10 = ((m / 10 : Nat) : Int) := by rw [Int.tdiv_eq_ediv_of_nonneg (by omega)]; omega
      have hr : (m : Int).tmod 10 = ((m % 10 : Nat) : Int) := by rw [Int.tmod_eq_emod_of_nonneg (by omega)]; omega
      have hr10 : m % 10 < 10 := Nat.mod_lt _ (by omega)
      have hq10 : m / 10 < m := Nat.div_lt_self hm (by omega)
      generalize m % 10 = r at *
      generalize m / 10 = q at *
      have hw2 : IntKind.i64.wrap (48 + (r : Int)) = 48 + (r : Int) := IntWalk.i64_in _ (by omega)
      have hw3 : IntKind.u8.wrap (48 + (r : Int)) = 48 + (r : Int) := by simp only [IntKind.wrap, IntKind.bits, IntKind.signed]; simp; omega
      have hw4 : IntKind.i64.wrap (r : Int) = (r : Int) := IntWalk.i64_in _ (by omega)
      have hw1 : IntKind.i64.wrap (q : Int) = (q : Int) := IntWalk.i64_in _ (by omega)
      have ha : 0 ≤ 48 + (r : Int) := by omega
      have hb2 : 48 + (r : Int) < 256 := by omega
      have hc : ¬ 9223372036854775807 < 1 + l.length := by omega
      have hc2 : 1 + l.length ≤ 9223372036854775807 := by omega
      go_wp2
      go_roundw
      case rel => exact ⟨q, by8 (48 + (r : Int)) :: l, by go_num, by first | rfl | simp, by simp; omega, by repeat' (first | with_reducible exact Below.refl _ _ | with_reducible assumption | with_reducible refine Below.drew ?_ | with_reducible refine Below.drewN ?_ _ | with_reducible refine Below.alloc ?_ ?_ _ | with_reducible refine Below.setCell ?_ ?_ _ | with_reducible refine Below.setRow ?_ ?_ _ | with_reducible refine below_step (by assumption) ?_ ?_ | (show (_ : Nat) ≤ _; first | omega | (simp <;> omega)))⟩
      case measure => simp [intOf] <;> omega
    · have hm0 : m = 0 := by omega
      subst hm0
      have hc : ¬ 9223372036854775807 < 1 + l.length := by omega
      have hc2 : 1 + l.length ≤ 9223372036854775807 := by omega
      go_wp2
      go_ret
      exact ⟨_, rfl, by repeat' (first | with_reducible exact Below.refl _ _ | with_reducible assumption | with_reducible refine Below.drew ?_ | with_reducible refine Below.drewN ?_ _ | with_reducible refine Below.alloc ?_ ?_ _ | with_reducible refine Below.setCell ?_ ?_ _ | with_reducible refine Below.setRow ?_ ?_ _ | with_reducible refine below_step (by assumption) ?_ ?_ | (show (_ : Nat) ≤ _; first | omega | (simp <;> omega)))⟩
set_option maxHeartbeats 4000000 in
theorem markStringS_fr (v : Value) (n b M : Nat) (k0 : Int) (hk0 : 1 ≤ k0 ∧ k0 ≤ 8796093022208) (hn : n ≤ 1048576) (w : World) (hM : M ≤ w.heap.size) (h : SpS w b M v n 1) :
    Calls Tryz.prog 35 #[v, .int .i64 k0] w fun e w' => e = .returned (.int .i64 (k0 + (n : Int))) ∧ FrM b M w w' := by
  have HH := Lib.hid h
  obtain ⟨a, cap, rfl⟩ := h.len
  clear h
  go_enter Tryz.func35, Tryz.ntmps35
  go_wp2
  go_loopw [5, 1] (fun i u wr => ∃ k : Nat, k ≤ n ∧ i = .int .i64 k ∧ u = .int .i64 (k0 + (k : Int)) ∧ FrM b M w wr) (fun i u wr => n + 1 - (intOf i).toNat)
  case atStart => exact ⟨0, by omega, rfl, by go_num, FrM.refl _ _ _⟩
  case round =>
    obtain ⟨k, hk, rfl, rfl, hfm⟩ := hrel
    have HFM := Lib.hid hfm
    have hszw := hfm.size
    clear hfm
    by_cases hlt : k < n
    · rcases HH.out with ⟨-, h0⟩ | ⟨q0, cap', hv, hq1, hq2, hq3, hfr, hsz⟩
      · omega
      simp only [Value.slice.injEq] at hv
      obtain ⟨rfl, -, rfl⟩ := hv
      obtain ⟨f1, f2⟩ := HFM.out.shape q0 hq3
      rw [hfr] at f1
      obtain ⟨d, hd⟩ : ∃ d, rowOf wr q0 = d := ⟨_, rfl⟩
      rw [hd] at f2
      have hds : n ≤ d.size := by omega
      have hgw : q0 < wr.heap.size := by omega
      have hlt2 : (k : Int) < (n : Int) := by omega
      have hk2 : k < d.size := by omega
      obtain ⟨u0, hu0⟩ : ∃ u, d[k]? = some u := ⟨_, Array.getElem?_eq_getElem hk2⟩
      have hw1 : IntKind.i64.wrap ((k : Int) + 1) = ((k + 1 : Nat) : Int) := by rw [IntWalk.i64_in _ (by omega)]; rfl
      have hw2 : IntKind.i64.wrap (k0 + (k : Int) + 1) = k0 + ((k + 1 : Nat) : Int) := by rw [IntWalk.i64_in _ (by omega)]; omega
      have hqc : b ≤ q0 ∧ q0 < M := ⟨hq1, hq2⟩
      clear f2 hsz hfr
      obtain ⟨t, ht⟩ : ∃ t : Nat, k0 + (k : Int) = (t : Int) := ⟨(k0 + (k : Int)).toNat, by omega⟩
      rw [ht] at hw2 ⊢
      have HT := Lib.hid (fun w => markText_some t (by omega) w)
      go_wp2_with (go_at_call 82; refine (HT.out _).mono ?_; rintro e w1 ⟨l, rfl, hb1⟩; have r_hb1 := keep_rowA hb1; have f_hb1 := keep_frA hb1; have s_hb1 := hb1.size; (try simp only [World.size_alloc, World.size_setCell, setRow_size, World.size_drew, size_drewNm] at r_hb1 f_hb1 s_hb1))
      have hb1' : FrM b M w w1 := HFM.out.trans (FrM.of_below (hb1))
      go_roundw
      case rel => exact ⟨k + 1, by omega, by go_num, by first | (rw [hw2]) | go_num, hb1'.cell hqc _ _⟩
      case measure => simp [intOf]; omega
    · have hke : k = n := by omega
      subst hke
      go_wp2
      go_ret
      exact ⟨rfl, HFM.out⟩
end Go.Proofs.YtejnejplofddnaaGreatDoor
/- The strings that marks leave, exactly. Written by gen_mrks.py. -/
namespace Go.Proofs.YtejnejplofddnaaGreatDoor
open Go.RowKit
set_option linter.unusedVariables false
set_option linter.unusedSimpArgs false
set_option maxRecDepth 100000
/-- The digits of a number ahead of others. -/
def mtL (m : Nat) (l : List UInt8) : List UInt8 := if h : m = 0 then l else mtL (m / 10) (by8 (48 + ((m % 10 : Nat) : Int)) :: l)
termination_by m
decreasing_by exact Nat.div_lt_self (by omega) (by omega)
theorem mtL_zero (l : List UInt8) : mtL 0 l = l := by rw [mtL, dif_pos rfl]
theorem mtL_next {m : Nat} (h : 0 < m) (l : List UInt8) : mtL m l = mtL (m / 10) (by8 (48 + ((m % 10 : Nat) : Int)) :: l) := by rw [mtL, dif_neg (by omega)]
def mtx (n : Nat) : List UInt8 := 109 :: mtL n []
set_option maxHeartbeats 4000000 in
theorem markText_any (n : Nat) (hn : 1 ≤ n ∧ n ≤ 8796097216512) (w : World) :
    Calls Tryz.prog 82 #[.int .i64 (n : Int)] w fun e w' => e = .returned (.string (tx (mtx n))) ∧ Below w.heap.size w w' := by
  have h0 : ¬ (n : Int) ≤ 0 := by omega
  have h1 : ¬ n = 0 := by omega
  go_enter Tryz.func82, Tryz.ntmps82
  go_wp2
  go_loopw [0, 3] (fun i u wr => ∃ (m : Nat) (l : List UInt8), i = .int .i64 (m : Int) ∧ u = .string (tx l) ∧ l.length + m ≤ n ∧ mtL m l = mtL n [] ∧ Below w.heap.size w wr) (fun i u wr => (intOf i).toNat)
  case atStart => exact ⟨n, [], rfl, rfl, by simp, rfl, by repeat' (first | with_reducible exact Below.refl _ _ | with_reducible assumption | with_reducible refine Below.drew ?_ | with_reducible refine Below.drewN ?_ _ | with_reducible refine Below.alloc ?_ ?_ _ | with_reducible refine Below.setCell ?_ ?_ _ | with_reducible refine Below.setRow ?_ ?_ _ | with_reducible refine below_step (by assumption) ?_ ?_ | (show (_ : Nat) ≤ _; first | omega | (simp <;> omega)))⟩
  case round =>
    obtain ⟨m, l, rfl, rfl, hl, hmt, hb⟩ := hrel
    have HMT := Lib.hid hmt
    clear hmt
    have hszw := hb.size
    by_cases hm : 0 < m
    · have hm2 : (0 : Int) < (m : Int) := by omega
      have hq : (m : Int).tdiv 10 = ((m / 10 : Nat) : Int) := by rw [Int.tdiv_eq_ediv_of_nonneg (by omega)]; omega
      have hr : (m : Int).tmod 10 = ((m % 10 : Nat) : Int) := by rw [Int.tmod_eq_emod_of_nonneg (by omega)]; omega
      have HNX := Lib.hid (mtL_next hm l)
      have hr10 : m % 10 < 10 := Nat.mod_lt _ (by omega)
      have hq10 : m / 10 < m := Nat.div_lt_self hm (by omega)
      generalize m % 10 = r at *
      generalize m / 10 = q at *
      have hw2 : IntKind.i64.wrap (48 + (r : Int)) = 48 + (r : Int) := IntWalk.i64_in _ (by omega)
      have hw3 : IntKind.u8.wrap (48 + (r : Int)) = 48 + (r : Int) := by simp only [IntKind.wrap, IntKind.bits, IntKind.signed]; simp; omega
      have hw4 : IntKind.i64.wrap (r : Int) = (r : Int) := IntWalk.i64_in _ (by omega)
      have hw1 : IntKind.i64.wrap (q : Int) = (q : Int) := IntWalk.i64_in _ (by omega)
      have ha : 0 ≤ 48 + (r : Int) := by omega
      have hb2 : 48 + (r : Int) < 256 := by omega
      have hc : ¬ 9223372036854775807 < 1 + l.length := by omega
      have hc2 : 1 + l.length ≤ 9223372036854775807 := by omega
      go_wp2
      go_roundw
      case rel => exact ⟨q, by8 (48 + (r : Int)) :: l, by go_num, by first | rfl | simp, by simp; omega, by rw [← HNX.out]; exact HMT.out, by repeat' (first | with_reducible exact Below.refl _ _ | with_reducible assumption | with_reducible refine Below.drew ?_ | with_reducible refine Below.drewN ?_ _ | with_reducible refine Below.alloc ?_ ?_ _ | with_reducible refine Below.setCell ?_ ?_ _ | with_reducible refine Below.setRow ?_ ?_ _ | with_reducible refine below_step (by assumption) ?_ ?_ | (show (_ : Nat) ≤ _; first | omega | (simp <;> omega)))⟩
      case measure => simp [intOf] <;> omega
    · have hm0 : m = 0 := by omega
      subst hm0
      have hc : ¬ 9223372036854775807 < 1 + l.length := by omega
      have hc2 : 1 + l.length ≤ 9223372036854775807 := by omega
      go_wp2
      go_ret
      exact ⟨by rw [show mtx n = 109 :: l from by unfold mtx; rw [← HMT.out, mtL_zero]]; rfl, by repeat' (first | with_reducible exact Below.refl _ _ | with_reducible assumption | with_reducible refine Below.drew ?_ | with_reducible refine Below.drewN ?_ _ | with_reducible refine Below.alloc ?_ ?_ _ | with_reducible refine Below.setCell ?_ ?_ _ | with_reducible refine Below.setRow ?_ ?_ _ | with_reducible refine below_step (by assumption) ?_ ?_ | (show (_ : Nat) ≤ _; first | omega | (simp <;> omega)))⟩
set_option maxHeartbeats 4000000 in
theorem markStringS_any (q0 cap n b M : Nat) (k0 : Int) (hk0 : 1 ≤ k0 ∧ k0 ≤ 8796093022208) (hn : n ≤ 1048576) (w : World) (hM : M ≤ w.heap.size) (hq : b ≤ q0 ∧ q0 < M) (hfr0 : frOf w q0 = (0, 0)) (hsz0 : n ≤ (rowOf w q0).size) :
    Calls Tryz.prog 35 #[.slice (some ⟨q0, 0, none⟩) n cap, .int .i64 k0] w fun e w' => e = .returned (.int .i64 (k0 + (n : Int))) ∧ FrM b M w w' ∧ OwnV 1 w' b (.slice (some ⟨q0, 0, none⟩) n cap) n (fun j _ => .string (tx (mtx (k0.toNat + j)))) := by
  go_enter Tryz.func35, Tryz.ntmps35
  go_wp2
  go_loopw [5, 1] (fun i u wr => ∃ k : Nat, k ≤ n ∧ i = .int .i64 k ∧ u = .int .i64 (k0 + (k : Int)) ∧ FrM b M w wr ∧ ∀ j, j < k → (rowOf wr q0)[j]? = some (.string (tx (mtx (k0.toNat + j))))) (fun i u wr => n + 1 - (intOf i).toNat)
  case atStart => exact ⟨0, by omega, rfl, by go_num, FrM.refl _ _ _, fun j hj => absurd hj (by omega)⟩
  case round =>
    obtain ⟨k, hk, rfl, rfl, hfm, hdn⟩ := hrel
    have HFM := Lib.hid hfm
    have hszw := hfm.size
    obtain ⟨f1, f2⟩ := hfm.shape q0 (by omega)
    rw [hfr0] at f1
    obtain ⟨d, hd⟩ : ∃ d, rowOf wr q0 = d := ⟨_, rfl⟩
    rw [hd] at f2 hdn
    have HDN := Lib.hid hdn
    have hds : n ≤ d.size := by omega
    clear hfm hdn f2
    by_cases hlt : k < n
    · have hgw : q0 < wr.heap.size := by omega
      have hlt2 : (k : Int) < (n : Int) := by omega
      have hk2 : k < d.size := by omega
      obtain ⟨u0, hu0⟩ : ∃ u, d[k]? = some u := ⟨_, Array.getElem?_eq_getElem hk2⟩
      have hw1 : IntKind.i64.wrap ((k : Int) + 1) = ((k + 1 : Nat) : Int) := by rw [IntWalk.i64_in _ (by omega)]; rfl
      have hw2 : IntKind.i64.wrap (k0 + (k : Int) + 1) = k0 + ((k + 1 : Nat) : Int) := by rw [IntWalk.i64_in _ (by omega)]; omega
      obtain ⟨t, ht⟩ : ∃ t : Nat, k0 + (k : Int) = (t : Int) := ⟨(k0 + (k : Int)).toNat, by omega⟩
      have htn : k0.toNat + k = t := by omega
      rw [ht] at hw2 ⊢
      have HT := Lib.hid (fun w => markText_any t (by omega) w)
      go_wp2_with (go_at_call 82; refine (HT.out _).mono ?_; rintro e w1 ⟨rfl, hb1⟩; have r_hb1 := keep_rowA hb1; have f_hb1 := keep_frA hb1; have s_hb1 := hb1.size; (try simp only [World.size_alloc, World.size_setCell, setRow_size, World.size_drew, size_drewNm] at r_hb1 f_hb1 s_hb1))
      have hb1' : FrM b M w w1 := HFM.out.trans (FrM.of_below (hb1))
      have hd1 : rowOf w1 q0 = d := (keep_row hb1 hgw).trans hd
      go_roundw
      case rel => exact ⟨k + 1, by omega, by go_num, by first | (rw [hw2]) | go_num, hb1'.cell hq _ _, fun j hj => by
          rw [row_setCell, if_pos rfl, hd1]
          by_cases hjk : j = k
          · subst hjk
            rw [Array.getElem?_setIfInBounds_self_of_lt hk2, htn]
          · rw [Array.getElem?_setIfInBounds_ne (by omega)]
            exact HDN.out j (by omega)⟩
      case measure => simp [intOf]; omega
    · have hke : k = n := by omega
      subst hke
      go_wp2
      go_ret
      exact ⟨rfl, HFM.out, .inr ⟨q0, cap, rfl, hq.1, by omega, f1, by rw [hd]; omega, fun j hj e he => by
        have he0 : e = 0 := by omega
        subst he0
        rw [hd, Nat.mul_one, Nat.add_zero]
        exact HDN.out j hj⟩⟩
end Go.Proofs.YtejnejplofddnaaGreatDoor
/- The statement's own functions at slices of numbers and of the strings that marks leave. Began as lines of XMrkN and XStrS. -/
namespace Go.Proofs.YtejnejplofddnaaGreatDoor
open Go.RowKit Go.Deep
set_option linter.unusedVariables false
set_option linter.unusedSimpArgs false
set_option maxRecDepth 100000
theorem OwnV.fr {s : Nat} {b M B : Nat} {x y : World} {v : Value} {n : Nat} {V : Nat → Nat → Value} (h : OwnV s x B v n V) (hf : FrM b M x y) (hB : M ≤ B ∨ ∀ g cap, v = .slice (some ⟨g, 0, none⟩) n cap → g < b) : OwnV s y B v n V := by
  rcases h with h | ⟨g, cap, rfl, h1, h2, h3, h4, h5⟩
  · exact .inl h
  · have hbl := hf.block g h2 (by
      rcases hB with hB | hB
      · exact .inr (by omega)
      · exact .inl (hB g cap rfl))
    have hr : rowOf y g = rowOf x g := by unfold rowOf; rw [hbl]
    have hq : frOf y g = frOf x g := by unfold frOf; rw [hbl]
    exact .inr ⟨g, cap, rfl, h1, Nat.lt_of_lt_of_le h2 hf.size, hq.trans h3, by rw [hr]; exact h4, fun k hk j hj => by rw [hr]; exact h5 k hk j hj⟩
set_option maxHeartbeats 4000000 in
theorem markInt64S_fr (v : Value) (n b M : Nat) (k0 : Int) (hk0 : 1 ≤ k0 ∧ k0 ≤ 8796093022208) (hn : n ≤ 1048576) (w : World) (hM : M ≤ w.heap.size) (h : SpS w b M v n 1) :
    Calls Tryz.prog 34 #[v, .int .i64 k0] w fun e w' => e = .returned (.int .i64 (k0 + (n : Int))) ∧ FrM b M w w' := by
  have HH := Lib.hid h
  obtain ⟨a, cap, rfl⟩ := h.len
  clear h
  go_enter Tryz.func34, Tryz.ntmps34
  go_wp2
  go_loopw [5, 1] (fun i u wr => ∃ k : Nat, k ≤ n ∧ i = .int .i64 k ∧ u = .int .i64 (k0 + (k : Int)) ∧ FrM b M w wr) (fun i u wr => n + 1 - (intOf i).toNat)
  case atStart => exact ⟨0, by omega, rfl, by go_num, FrM.refl _ _ _⟩
  case round =>
    obtain ⟨k, hk, rfl, rfl, hfm⟩ := hrel
    have HFM := Lib.hid hfm
    have hszw := hfm.size
    clear hfm
    by_cases hlt : k < n
    · rcases HH.out with ⟨-, h0⟩ | ⟨q0, cap', hv, hq1, hq2, hq3, hfr, hsz⟩
      · omega
      simp only [Value.slice.injEq] at hv
      obtain ⟨rfl, -, rfl⟩ := hv
      obtain ⟨f1, f2⟩ := HFM.out.shape q0 hq3
      rw [hfr] at f1
      obtain ⟨d, hd⟩ : ∃ d, rowOf wr q0 = d := ⟨_, rfl⟩
      rw [hd] at f2
      have hds : n ≤ d.size := by omega
      have hgw : q0 < wr.heap.size := by omega
      have hlt2 : (k : Int) < (n : Int) := by omega
      have hk2 : k < d.size := by omega
      obtain ⟨u0, hu0⟩ : ∃ u, d[k]? = some u := ⟨_, Array.getElem?_eq_getElem hk2⟩
      have hw1 : IntKind.i64.wrap ((k : Int) + 1) = ((k + 1 : Nat) : Int) := by rw [IntWalk.i64_in _ (by omega)]; rfl
      have hw2 : IntKind.i64.wrap (k0 + (k : Int) + 1) = k0 + ((k + 1 : Nat) : Int) := by rw [IntWalk.i64_in _ (by omega)]; omega
      have hqc : b ≤ q0 ∧ q0 < M := ⟨hq1, hq2⟩
      clear f2 hsz hfr
      go_wp2
      go_roundw
      case rel => exact ⟨k + 1, by omega, by go_num, by go_num, HFM.out.cell hqc _ _⟩
      case measure => simp [intOf]; omega
    · have hke : k = n := by omega
      subst hke
      go_wp2
      go_ret
      exact ⟨rfl, HFM.out⟩
theorem int_madeP : ∃ Z : Nat → Array Value, ∀ n, (Z n).size = n ∧ (n ≤ 1048576 → ∀ w : World, (Instr.makeSlice 37 (.int .i64 (n : Int)) (.int .i64 (n : Int))).run Tryz.prog w = .ok (.slice (some ⟨w.heap.size, 0, none⟩) n n) (w.alloc (.cells (Z n) 2))) := by
  obtain ⟨i0, z0, hi0, hz0, hs0, hb0, hc0⟩ := i64_info
  refine ⟨fun n => madeCells z0.cells n, fun n => ⟨size_madeCells _ _, fun hn w => ?_⟩⟩
  have := run_make (P := Tryz.prog) w 37 2 i0 z0 Tryz.underlying37 hi0 hz0 .i64 .i64 n n (by omega) (by omega) (by rw [hb0]; omega) (by omega)
  rw [hs0] at this
  simpa using this
set_option maxHeartbeats 2000000 in
theorem toInt64S_full (v : Value) (m : Nat) (f : Nat → Int) (hm : m ≤ 1048576) (w : World) (h : SlA .i64 1 w v m f) :
    Calls Tryz.prog 29 #[v] w fun e w' => ∃ g, e = .returned (.slice (some ⟨g, 0, none⟩) m m) ∧ OwnK .i64 1 w' w.heap.size (.slice (some ⟨g, 0, none⟩) m m) m f ∧ Below w.heap.size w w' := by
  obtain ⟨Z, hZ⟩ := int_madeP
  have hzs := (hZ m).1
  have hmk := (hZ m).2 hm
  clear hZ
  generalize Z m = z at hzs hmk
  obtain ⟨a, cap, rfl⟩ := h.len
  have HH := Lib.hid h
  clear h
  go_enter Tryz.func29, Tryz.ntmps29
  go_wp2
  go_loopw [4] (fun i wr => ∃ (k : Nat) (d : Array Value), k ≤ m ∧ i = .int .i64 k ∧ Below w.heap.size w wr ∧ w.heap.size + 1 ≤ wr.heap.size ∧ frOf wr w.heap.size = (0, 0) ∧ rowOf wr w.heap.size = d ∧ d.size = m ∧ ∀ i : Nat, i < k → d[i]? = some (Value.int .i64 (f i))) (fun i wr => m + 1 - (intOf i).toNat)
  case atStart => exact ⟨0, z, by omega, rfl, by repeat' (first | with_reducible exact Below.refl _ _ | with_reducible assumption | with_reducible refine Below.drew ?_ | with_reducible refine Below.drewN ?_ _ | with_reducible refine Below.alloc ?_ ?_ _ | with_reducible refine Below.setCell ?_ ?_ _ | with_reducible refine Below.setRow ?_ ?_ _ | with_reducible refine below_step (by assumption) ?_ ?_ | (show (_ : Nat) ≤ _; first | omega | (simp <;> omega))), by simp, by (go_simp <;> (intros; omega)), by (go_simp <;> (intros; omega)), hzs, fun j hj => absurd hj (by omega)⟩
  case round =>
    obtain ⟨k, d, hk, rfl, hb, hsz, hfr, hrd, hds, hd⟩ := hrel
    have HD := Lib.hid hd
    have hsz0 := hb.size
    clear hd
    by_cases hlt : k < m
    · obtain ⟨g, o, cap', hv, hg, hc⟩ := HH.out.pos (by omega)
      simp only [Value.slice.injEq] at hv
      obtain ⟨rfl, -, rfl⟩ := hv
      have e0 := hc k (by omega)
      rw [← keep_row hb hg] at e0
      have hgw : g < wr.heap.size := by omega
      have hlt2 : (k : Int) < (m : Int) := by omega
      have hw1 : IntKind.i64.wrap ((k : Int) + 1) = ((k + 1 : Nat) : Int) := by rw [IntWalk.i64_in _ (by omega)]; rfl
      have hkd : k < d.size := by omega
      have HN := Lib.hid (show ∀ i : Nat, i < k + 1 → (d.setIfInBounds k (.int .i64 (f k)))[i]? = some (Value.int .i64 (f i)) from fun i hi => by
        by_cases hik : i = k
        · subst hik
          rw [Array.getElem?_setIfInBounds_self_of_lt hkd]
        · rw [Array.getElem?_setIfInBounds_ne (by omega)]
          exact HD.out i (by omega))
      generalize f k = y at *
      clear hc
      go_wp2
      go_roundw
      case rel => first | exact ⟨k + 1, d.setIfInBounds k (.int .i64 y), by omega, by go_num, by repeat' (first | with_reducible exact Below.refl _ _ | with_reducible assumption | with_reducible refine Below.drew ?_ | with_reducible refine Below.drewN ?_ _ | with_reducible refine Below.alloc ?_ ?_ _ | with_reducible refine Below.setCell ?_ ?_ _ | with_reducible refine Below.setRow ?_ ?_ _ | with_reducible refine below_step (by assumption) ?_ ?_ | (show (_ : Nat) ≤ _; first | omega | (simp <;> omega))), by simp; omega, by (go_simp <;> (intros; omega)), by (go_simp <;> (intros; omega)), by simpa using hds, HN.out⟩ | ((repeat (with_reducible apply Exists.intro)); refine And.intro ?_ ?_; rotate_left; (focus ((repeat' (with_reducible apply And.intro)) <;> rfl)); exact ⟨k + 1, d.setIfInBounds k (.int .i64 y), by omega, by go_num, by repeat' (first | with_reducible exact Below.refl _ _ | with_reducible assumption | with_reducible refine Below.drew ?_ | with_reducible refine Below.drewN ?_ _ | with_reducible refine Below.alloc ?_ ?_ _ | with_reducible refine Below.setCell ?_ ?_ _ | with_reducible refine Below.setRow ?_ ?_ _ | with_reducible refine below_step (by assumption) ?_ ?_ | (show (_ : Nat) ≤ _; first | omega | (simp <;> omega))), by simp; omega, by (go_simp <;> (intros; omega)), by (go_simp <;> (intros; omega)), by simpa using hds, HN.out⟩)
      case measure => simp [intOf]; omega
    · have hke : k = m := by omega
      subst hke
      go_wp2
      go_ret
      exact ⟨w.heap.size, rfl, .inr ⟨w.heap.size, _, rfl, Nat.le_refl _, by omega, hfr, by rw [hrd]; omega, fun j hj => by
        rw [hrd]
        exact HD.out j (by omega)⟩, by repeat' (first | with_reducible exact Below.refl _ _ | with_reducible assumption | with_reducible refine Below.drew ?_ | with_reducible refine Below.drewN ?_ _ | with_reducible refine Below.alloc ?_ ?_ _ | with_reducible refine Below.setCell ?_ ?_ _ | with_reducible refine Below.setRow ?_ ?_ _ | with_reducible refine below_step (by assumption) ?_ ?_ | (show (_ : Nat) ≤ _; first | omega | (simp <;> omega)))⟩
theorem markStringS_own (v : Value) (n b : Nat) (V : Nat → Nat → Value) (hn : n ≤ 1048576) (w : World) (hb : b ≤ w.heap.size) (h : OwnV 1 w b v n V) :
    Calls Tryz.prog 35 #[v, .int .i64 1] w fun e w' => e = .returned (.int .i64 (1 + (n : Int))) ∧ Below b w w' ∧ OwnV 1 w' b v n (fun j _ => .string (tx (mtx (1 + j)))) := by
  rcases h with ⟨rfl, rfl⟩ | ⟨q, cap, rfl, h1, h2, h3, h4, -⟩
  · refine (markStringS_fr (.slice none 0 0) 0 0 0 1 (by omega) (by omega) w (by omega) (.inl ⟨rfl, rfl⟩)).mono fun e w' hq => ?_
    obtain ⟨rfl, hf⟩ := hq
    exact ⟨rfl, ⟨hf.os, hf.tape, hf.output, hf.size, fun q hq => hf.block q (by omega) (.inr (Nat.zero_le _))⟩, .inl ⟨rfl, rfl⟩⟩
  · refine (markStringS_any q cap n b w.heap.size 1 (by omega) hn w (Nat.le_refl _) ⟨h1, h2⟩ h3 (by omega)).mono fun e w' hq => ?_
    obtain ⟨rfl, hf, ho⟩ := hq
    exact ⟨rfl, hf.below hb, ho⟩
set_option maxHeartbeats 4000000 in
theorem heldStringS_own (v : Value) (n b : Nat) (hn : n ≤ 1048576) (w : World) (h : OwnV 1 w b v n (fun j _ => .string (tx (mtx (1 + j))))) :
    Calls Tryz.prog 36 #[v, .int .i64 1] w fun e w' => e = .returned (.int .i64 (1 + (n : Int))) ∧ Below w.heap.size w w' := by
  have HH := Lib.hid h
  obtain ⟨a, cap, rfl⟩ := h.len
  clear h
  go_enter Tryz.func36, Tryz.ntmps36
  go_wp2
  go_loopw [5, 1] (fun i s wr => ∃ k : Nat, k ≤ n ∧ i = .int .i64 k ∧ s = .int .i64 ((1 + k : Nat) : Int) ∧ Below w.heap.size w wr) (fun i s wr => n + 1 - (intOf i).toNat)
  case atStart => exact ⟨0, by omega, rfl, rfl, by repeat' (first | with_reducible exact Below.refl _ _ | with_reducible assumption | with_reducible refine Below.drew ?_ | with_reducible refine Below.drewN ?_ _ | with_reducible refine Below.alloc ?_ ?_ _ | with_reducible refine Below.setCell ?_ ?_ _ | with_reducible refine Below.setRow ?_ ?_ _ | with_reducible refine below_step (by assumption) ?_ ?_ | (show (_ : Nat) ≤ _; first | omega | (simp <;> omega)))⟩
  case round =>
    obtain ⟨k, hk, rfl, rfl, hb⟩ := hrel
    have hszw := hb.size
    by_cases hlt : k < n
    · obtain ⟨g, cap', hv, -, hg, -, hRs, hc⟩ := HH.out.pos (by omega)
      simp only [Value.slice.injEq] at hv
      obtain ⟨rfl, -, rfl⟩ := hv
      have e0 := hc k hlt 0 (by omega)
      rw [Nat.mul_one, Nat.add_zero, ← keep_row hb hg] at e0
      have hgw : g < wr.heap.size := by omega
      have hlt2 : (k : Int) < (n : Int) := by omega
      have hw1 : IntKind.i64.wrap ((k : Int) + 1) = ((k + 1 : Nat) : Int) := by rw [IntWalk.i64_in _ (by omega)]; rfl
      obtain ⟨t, ht⟩ : ∃ t : Nat, 1 + k = t := ⟨_, rfl⟩
      have hw2 : IntKind.i64.wrap ((t : Int) + 1) = ((1 + (k + 1) : Nat) : Int) := by rw [IntWalk.i64_in _ (by omega)]; omega
      have HT := Lib.hid (fun w => markText_any t (by omega) w)
      rw [ht] at e0 ⊢
      obtain ⟨l, hl⟩ : ∃ l, mtx t = l := ⟨_, rfl⟩
      rw [hl] at HT e0
      clear hc hl
      go_wp2
      go_region_held3 (fun w' => (rowOf w' g)[k]? = some (.string (tx l)) ∧ Below wr.heap.size wr w') (refine ⟨by go_simp, by repeat' (first | with_reducible exact Below.refl _ _ | with_reducible assumption | with_reducible refine Below.drew ?_ | with_reducible refine Below.drewN ?_ _ | with_reducible refine Below.alloc ?_ ?_ _ | with_reducible refine Below.setCell ?_ ?_ _ | with_reducible refine Below.setRow ?_ ?_ _ | with_reducible refine below_step (by assumption) ?_ ?_ | (show (_ : Nat) ≤ _; first | omega | (simp <;> omega)))⟩) ((go_at_call 82; refine (HT.out _).mono ?_; rintro e w1 ⟨rfl, hb1⟩; have r_hb1 := keep_rowA hb1; have f_hb1 := keep_frA hb1; have s_hb1 := hb1.size; (try simp only [World.size_alloc, World.size_setCell, setRow_size, World.size_drew, size_drewNm] at r_hb1 f_hb1 s_hb1)))
      all_goals
        go_wp2
        go_roundw
        case rel => first | exact ⟨k + 1, by omega, by go_num, by first | (rw [hw2]) | go_num, by repeat' (first | with_reducible exact Below.refl _ _ | with_reducible assumption | with_reducible refine Below.drew ?_ | with_reducible refine Below.drewN ?_ _ | with_reducible refine Below.alloc ?_ ?_ _ | with_reducible refine Below.setCell ?_ ?_ _ | with_reducible refine Below.setRow ?_ ?_ _ | with_reducible refine below_step (by assumption) ?_ ?_ | (show (_ : Nat) ≤ _; first | omega | (simp <;> omega)))⟩ | ((repeat (with_reducible apply Exists.intro)); refine And.intro ?_ ?_; rotate_left; (focus ((repeat' (with_reducible apply And.intro)) <;> rfl)); exact ⟨k + 1, by omega, by go_num, by first | (rw [hw2]) | go_num, by repeat' (first | with_reducible exact Below.refl _ _ | with_reducible assumption | with_reducible refine Below.drew ?_ | with_reducible refine Below.drewN ?_ _ | with_reducible refine Below.alloc ?_ ?_ _ | with_reducible refine Below.setCell ?_ ?_ _ | with_reducible refine Below.setRow ?_ ?_ _ | with_reducible refine below_step (by assumption) ?_ ?_ | (show (_ : Nat) ≤ _; first | omega | (simp <;> omega)))⟩)
        case measure => simp [intOf]; omega
    · have hke : k = n := by omega
      subst hke
      go_wp2
      go_ret
      exact ⟨by simp, by repeat' (first | with_reducible exact Below.refl _ _ | with_reducible assumption | with_reducible refine Below.drew ?_ | with_reducible refine Below.drewN ?_ _ | with_reducible refine Below.alloc ?_ ?_ _ | with_reducible refine Below.setCell ?_ ?_ _ | with_reducible refine Below.setRow ?_ ?_ _ | with_reducible refine below_step (by assumption) ?_ ?_ | (show (_ : Nat) ≤ _; first | omega | (simp <;> omega)))⟩
end Go.Proofs.YtejnejplofddnaaGreatDoor
