/- Marks and strings written over: what stays as it was. -/
import Derived.Test.YtifhffnppgkjgaaGreatDoorStrS
namespace Go.Proofs.YtifhffnppgkjgaaGreatDoor
open Go.RowKit
set_option linter.unusedVariables false
set_option linter.unusedSimpArgs false
set_option maxRecDepth 100000
/-- Blocks below b and from M on stay as they were; all rows keep their sizes and frames. -/
structure FrM (b M : Nat) (w w' : World) : Prop where
  os : w'.os = w.os
  tape : w'.tape = w.tape
  output : w'.output = w.output
  size : w.heap.size ≤ w'.heap.size
  block : ∀ q, q < w.heap.size → q < b ∨ M ≤ q → w'.heap[q]? = w.heap[q]?
  shape : ∀ q, q < w.heap.size → frOf w' q = frOf w q ∧ (rowOf w' q).size = (rowOf w q).size
theorem FrM.refl (b M : Nat) (w : World) : FrM b M w w := ⟨rfl, rfl, rfl, Nat.le_refl _, fun _ _ _ => rfl, fun _ _ => ⟨rfl, rfl⟩⟩
theorem FrM.trans {b M : Nat} {x y z : World} (h : FrM b M x y) (k : FrM b M y z) : FrM b M x z :=
  ⟨k.os.trans h.os, k.tape.trans h.tape, k.output.trans h.output, Nat.le_trans h.size k.size, fun q hq hbM => (k.block q (Nat.lt_of_lt_of_le hq h.size) hbM).trans (h.block q hq hbM), fun q hq => by
    obtain ⟨h1, h2⟩ := h.shape q hq
    obtain ⟨k1, k2⟩ := k.shape q (Nat.lt_of_lt_of_le hq h.size)
    exact ⟨k1.trans h1, k2.trans h2⟩⟩
theorem FrM.below {b M : Nat} {x y : World} (h : FrM b M x y) (hb : b ≤ x.heap.size) : Below b x y := ⟨h.os, h.tape, h.output, h.size, fun q hq => h.block q (by omega) (.inl hq)⟩
theorem FrM.of_below {b M : Nat} {x y : World} (h : Below x.heap.size x y) : FrM b M x y :=
  ⟨h.os, h.tape, h.output, h.size, fun q hq _ => h.block q hq, fun q hq => ⟨keep_fr h hq, by rw [keep_row h hq]⟩⟩
theorem FrM.cell {b M : Nat} {x y : World} (h : FrM b M x y) {g : Nat} (hg : b ≤ g ∧ g < M) (i : Nat) (v : Value) : FrM b M x (y.setCell ⟨g, i, none⟩ v) :=
  h.trans ⟨rfl, rfl, rfl, by simp [World.setCell], fun q hq hbM => Below.heap_setCell _ _ _ _ (by show q ≠ g; omega), fun q hq => ⟨fr_setCell _ _ _ _, by
    rw [row_setCell]
    split
    · rename_i e; rw [e]; simp
    · rfl⟩⟩
theorem OwnK.fr {k : IntKind} {s : Nat} {b M B : Nat} {x y : World} {v : Value} {n : Nat} {f : Nat → Int} (h : OwnK k s x B v n f) (hf : FrM b M x y) (hB : M ≤ B ∨ ∀ g cap, v = .slice (some ⟨g, 0, none⟩) n cap → g < b) : OwnK k s y B v n f := by
  rcases h with h | ⟨g, cap, rfl, h1, h2, h3, h4, h5⟩
  · exact .inl h
  · have hbl := hf.block g h2 (by
      rcases hB with hB | hB
      · exact .inr (by omega)
      · exact .inl (hB g cap rfl))
    have hr : rowOf y g = rowOf x g := by unfold rowOf; rw [hbl]
    have hq : frOf y g = frOf x g := by unfold frOf; rw [hbl]
    exact .inr ⟨g, cap, rfl, h1, Nat.lt_of_lt_of_le h2 hf.size, hq.trans h3, by rw [hr]; exact h4, fun j hj => by rw [hr]; exact h5 j hj⟩
/-- A slice that can be written over. -/
def SpS (w : World) (b M : Nat) (v : Value) (n s : Nat) : Prop := (v = .slice none 0 0 ∧ n = 0) ∨ ∃ q cap, v = .slice (some ⟨q, 0, none⟩) n cap ∧ b ≤ q ∧ q < M ∧ q < w.heap.size ∧ frOf w q = (0, 0) ∧ n * s ≤ (rowOf w q).size
theorem SpS.of {k : IntKind} {s : Nat} {w : World} {B M : Nat} {v : Value} {n : Nat} {f : Nat → Int} (h : OwnK k s w B v n f) (hM : w.heap.size ≤ M) : SpS w B M v n s := by
  rcases h with h | ⟨g, cap, rfl, h1, h2, h3, h4, h5⟩
  · exact .inl h
  · exact .inr ⟨g, cap, rfl, h1, by omega, h2, h3, h4⟩
theorem SpS.ofV {s : Nat} {w : World} {B M : Nat} {v : Value} {n : Nat} {V : Nat → Nat → Value} (h : OwnV s w B v n V) (hM : w.heap.size ≤ M) : SpS w B M v n s := by
  rcases h with h | ⟨g, cap, rfl, h1, h2, h3, h4, h5⟩
  · exact .inl h
  · exact .inr ⟨g, cap, rfl, h1, by omega, h2, h3, h4⟩
theorem SpS.fr {w w' : World} {b b' M M' : Nat} {v : Value} {n s : Nat} (h : SpS w b M v n s) (hf : FrM b' M' w w') : SpS w' b M v n s := by
  rcases h with h | ⟨q, cap, rfl, h1, h2, h3, h4, h5⟩
  · exact .inl h
  · obtain ⟨e1, e2⟩ := hf.shape q h3
    exact .inr ⟨q, cap, rfl, h1, h2, Nat.lt_of_lt_of_le h3 hf.size, e1.trans h4, by rw [e2]; exact h5⟩
theorem SpS.len {w : World} {b M : Nat} {v : Value} {n s : Nat} (h : SpS w b M v n s) : ∃ a cap, v = .slice a n cap := by
  rcases h with ⟨rfl, rfl⟩ | ⟨q, cap, rfl, -⟩ <;> exact ⟨_, _, rfl⟩
set_option maxHeartbeats 4000000 in
theorem markSpotS_fr (v : Value) (n b M : Nat) (k0 : Int) (hk0 : 0 ≤ k0 ∧ k0 ≤ 8796093022208) (hn : n ≤ 1048576) (w : World) (h : SpS w b M v n 2) :
    Calls Tryz.prog 47 #[v, .int .i64 k0] w fun e w' => e = .returned (.int .i64 (k0 + ((n * 2 : Nat) : Int))) ∧ FrM b M w w' ∧ ∀ q, (∀ q1 c1, v = .slice (some ⟨q1, 0, none⟩) n c1 → 0 < n → q ≠ q1) → rowOf w' q = rowOf w q := by
  have HH := Lib.hid h
  obtain ⟨a, cap, rfl⟩ := h.len
  clear h
  go_enter Tryz.func47, Tryz.ntmps47
  go_wp2
  go_loopw [5, 1] (fun i u wr => ∃ k : Nat, k ≤ n ∧ i = .int .i64 k ∧ u = .int .i64 (k0 + ((k * 2 : Nat) : Int)) ∧ FrM b M w wr ∧ ∀ q, (∀ q1 c1, Value.slice a n cap = .slice (some ⟨q1, 0, none⟩) n c1 → 0 < n → q ≠ q1) → rowOf wr q = rowOf w q) (fun i u wr => n + 1 - (intOf i).toNat)
  case atStart => exact ⟨0, by omega, rfl, by go_num, FrM.refl _ _ _, fun q _ => rfl⟩
  case round =>
    obtain ⟨k, hk, rfl, rfl, hfm, hrw⟩ := hrel
    have HFM := Lib.hid hfm
    have HRW := Lib.hid hrw
    have hszw := hfm.size
    clear hfm hrw
    by_cases hlt : k < n
    · rcases HH.out with ⟨-, h0⟩ | ⟨q0, cap', hv, hq1, hq2, hq3, hfr, hsz⟩
      · omega
      simp only [Value.slice.injEq] at hv
      obtain ⟨rfl, -, rfl⟩ := hv
      obtain ⟨f1, f2⟩ := HFM.out.shape q0 hq3
      rw [hfr] at f1
      obtain ⟨d, hd⟩ : ∃ d, rowOf wr q0 = d := ⟨_, rfl⟩
      rw [hd] at f2
      have hds : n * 2 ≤ d.size := by omega
      have hgw : q0 < wr.heap.size := by omega
      have hlt2 : (k : Int) < (n : Int) := by omega
      have hk2 : k * 2 < d.size := by omega
      have hk3 : k * 2 + 1 < d.size := by omega
      obtain ⟨u0, hu0⟩ : ∃ u, d[k * 2]? = some u := ⟨_, Array.getElem?_eq_getElem hk2⟩
      obtain ⟨u1, hu1⟩ : ∃ u, d[k * 2 + 1]? = some u := ⟨_, Array.getElem?_eq_getElem hk3⟩
      have hw1 : IntKind.i64.wrap ((k : Int) + 1) = ((k + 1 : Nat) : Int) := by rw [IntWalk.i64_in _ (by omega)]; rfl
      have hw2 : IntKind.i64.wrap (k0 + ((k * 2 : Nat) : Int) + 1) = k0 + ((k * 2 : Nat) : Int) + 1 := IntWalk.i64_in _ (by omega)
      have hw3 : IntKind.i64.wrap (k0 + ((k * 2 : Nat) : Int) + 1 + 1) = k0 + (((k + 1) * 2 : Nat) : Int) := by rw [IntWalk.i64_in _ (by omega)]; omega
      have hqc : b ≤ q0 ∧ q0 < M := ⟨hq1, hq2⟩
      clear f2 hsz hfr
      generalize hc : k0 + ((k * 2 : Nat) : Int) = kk at *
      go_wp2
      go_roundw
      case rel => exact ⟨k + 1, by omega, by go_num, by first | rfl | (rw [hw3]) | go_num, (HFM.out.cell hqc _ _).cell hqc _ _, fun q hq => by rw [row_setCell, if_neg (hq q0 _ rfl (by omega)), row_setCell, if_neg (hq q0 _ rfl (by omega))]; exact HRW.out q hq⟩
      case measure => simp [intOf]; omega
    · have hke : k = n := by omega
      subst hke
      go_wp2
      go_ret
      exact ⟨rfl, HFM.out, HRW.out⟩
set_option maxHeartbeats 4000000 in
theorem markMarkS_fr (g cap n b M : Nat) (N : Nat → Nat) (G : Nat → Value) (k0 : Int) (hk0 : 1 ≤ k0 ∧ k0 ≤ 1048576) (hn : n ≤ 1048576) (hN : ∀ i, i < n → N i ≤ 1048576) (w : World) (hg : g < w.heap.size) (hgM : b ≤ g ∧ g < M) (hfr : frOf w g = (0, 0)) (hsz : n * 2 ≤ (rowOf w g).size) (hc : ∀ i, i < n → (rowOf w g)[i * 2 + 1]? = some (G i)) (hS : ∀ i, i < n → SpS w b M (G i) (N i) 2) (hne : ∀ i, i < n → ∀ q1 c1, G i = .slice (some ⟨q1, 0, none⟩) (N i) c1 → 0 < N i → g ≠ q1) :
    Calls Tryz.prog 23 #[.slice (some ⟨g, 0, none⟩) n cap, .int .i64 k0] w fun e w' => ∃ k1 : Int, e = .returned (.int .i64 k1) ∧ (1 ≤ k1 ∧ k1 ≤ 8796093022208) ∧ FrM b M w w' := by
  have HC := Lib.hid hc
  have HS := Lib.hid hS
  have HN := Lib.hid hN
  have HNE := Lib.hid hne
  clear hc hS hN hne
  go_enter Tryz.func23, Tryz.ntmps23
  go_wp2
  go_loopw [5, 1] (fun i u wr => ∃ (k : Nat) (kk : Int), k ≤ n ∧ i = .int .i64 k ∧ u = .int .i64 kk ∧ (1 ≤ kk ∧ kk ≤ 1048576 + (k : Int) * 2097153) ∧ FrM b M w wr ∧ ∀ i, i < n → (rowOf wr g)[i * 2 + 1]? = some (G i)) (fun i u wr => n + 1 - (intOf i).toNat)
  case atStart => exact ⟨0, k0, by omega, rfl, rfl, by omega, FrM.refl _ _ _, HC.out⟩
  case round =>
    obtain ⟨k, kk, hk, rfl, rfl, hkk, hfm, hrc⟩ := hrel
    have HFM := Lib.hid hfm
    have HRC := Lib.hid hrc
    have hszw := hfm.size
    obtain ⟨f1, f2⟩ := hfm.shape g hg
    rw [hfr] at f1
    by_cases hlt : k < n
    · obtain ⟨d, hd⟩ : ∃ d, rowOf wr g = d := ⟨_, rfl⟩
      rw [hd] at f2
      have hds : n * 2 ≤ d.size := by omega
      have hgw : g < wr.heap.size := by omega
      have hlt2 : (k : Int) < (n : Int) := by omega
      have hk2 : k * 2 < d.size := by omega
      have hu1 := hrc k hlt
      rw [hd] at hu1
      obtain ⟨u0, hu0⟩ : ∃ u, d[k * 2]? = some u := ⟨_, Array.getElem?_eq_getElem hk2⟩
      have hNk := HN.out k hlt
      have hSk := HS.out k hlt
      obtain ⟨ai, ci, hGk⟩ := hSk.len
      have hnk := HNE.out k hlt
      rw [hGk] at hu1 hSk hnk
      have hd2 : ∀ v : Value, (d.setIfInBounds (k * 2) v)[k * 2 + 1]? = some (.slice ai (N k) ci) := fun v => by rw [Array.getElem?_setIfInBounds_ne (by omega)]; exact hu1
      have hw1 : IntKind.i64.wrap ((k : Int) + 1) = ((k + 1 : Nat) : Int) := by rw [IntWalk.i64_in _ (by omega)]; rfl
      have hw2 : IntKind.i64.wrap (kk + 1) = kk + 1 := IntWalk.i64_in _ (by omega)
      have hgc := hgM
      have HMK := Lib.hid (fun w h => markSpotS_fr (.slice ai (N k) ci) (N k) b M (kk + 1) (by omega) hNk w h)
      have HSK := Lib.hid hSk
      clear hrc hSk hfm f2 hGk
      go_wp2_with (go_at_call 47; refine (HMK.out _ (HSK.out.fr (HFM.out.cell hgc _ _))).mono ?_; rintro e w1 ⟨rfl, hf1, hr1⟩)
      have hf2 : FrM b M w w1 := (HFM.out.cell hgc (k * 2) (.int .i8 (IntKind.i8.wrap kk))).trans hf1
      have hrg := hr1 g hnk
      rw [row_setCell, if_pos rfl, hd] at hrg
      go_roundw
      case rel => exact ⟨k + 1, kk + 1 + ((N k * 2 : Nat) : Int), by omega, by go_num, rfl, by omega, hf2, fun i hi => by rw [hrg, Array.getElem?_setIfInBounds_ne (by omega), ← hd]; exact HRC.out i hi⟩
      case measure => simp [intOf]; omega
    · have hke : k = n := by omega
      subst hke
      go_wp2
      go_ret
      exact ⟨kk, rfl, by omega, HFM.out⟩
theorem markMarkS_any (v : Value) (n b M : Nat) (F : Nat → Mk) (hn : n ≤ 1048576) (hN : ∀ i, i < n → (F i).n ≤ 1048576) (wM : World) (h : OwnM wM b v n F) (hM : wM.heap.size ≤ M) (w : World) (hb : Below wM.heap.size wM w) :
    Calls Tryz.prog 23 #[v, .int .i64 1] w fun e w' => ∃ k1 : Int, e = .returned (.int .i64 k1) ∧ (1 ≤ k1 ∧ k1 ≤ 8796093022208) ∧ FrM b M w w' := by
  have hsz := hb.size
  rcases Nat.eq_zero_or_pos n with h0 | h0
  · subst h0
    obtain ⟨a, cap, rfl⟩ := h.1.len
    clear h hN
    go_enter Tryz.func23, Tryz.ntmps23
    go_wp2
    go_loopw [5, 1] (fun i u wr => i = .int .i64 (0 : Nat) ∧ u = .int .i64 1 ∧ wr = w) (fun i u wr => 0)
    case atStart => exact ⟨rfl, rfl, rfl⟩
    case round =>
      obtain ⟨rfl, rfl, rfl⟩ := hrel
      go_wp2
      go_ret
      exact ⟨1, rfl, by omega, FrM.refl _ _ _⟩
  · obtain ⟨g, cap, rfl, hbg, hg, hfr, hs, hc⟩ := h.1.pos h0
    have hc1 : ∀ i, i < n → (rowOf wM g)[i * 2 + 1]? = some (F i).v := fun i hi => by have := hc i hi 1 (by omega); simpa [mkV] using this
    refine markMarkS_fr g cap n b M (fun i => (F i).n) (fun i => (F i).v) 1 (by omega) hn hN w (by omega) ⟨hbg, by omega⟩ ((keep_fr hb hg).trans hfr) (by rw [keep_row hb hg]; exact hs) (fun i hi => by rw [keep_row hb hg]; exact hc1 i hi) (fun i hi => (SpS.of (h.2 i hi) hM).fr (FrM.of_below (b := 0) (M := 0) hb)) (fun i hi q1 c1 hv hni e => ?_)
    obtain ⟨q, c, hv2, -, -, -, -, hq⟩ := (h.2 i hi).pos hni
    rw [hv2] at hv
    simp only [Value.slice.injEq, Option.some.injEq, Addr.mk.injEq] at hv
    obtain ⟨⟨rfl, -, -⟩, -⟩ := hv
    have h1 := hq 1 (by omega)
    rw [← e] at h1
    have h2 := hc1 0 h0
    obtain ⟨a0, c0, hv0⟩ := (h.2 0 h0).len
    rw [hv0] at h2
    rw [Nat.zero_mul, Nat.zero_add] at h2
    rw [h1] at h2
    cases h2
@[go_sem] theorem tc_109 : (ByteArray.mk #[109]) = tx [109] := rfl
@[go_sem] theorem tc_m0 : (ByteArray.mk #[109, 48]) = tx [109, 48] := rfl
@[go_sem] theorem conv1_N (w : World) (g cap : Nat) : (convert 107 9 (.slice (some ⟨g, 0, none⟩) 1 cap)).run Tryz.prog w = conv1 ((rowOf w g)[0]?) w ((convBX 107 9 (.slice (some ⟨g, 0, none⟩) 1 cap)).run Tryz.prog w) := run_conv1 w 107 9 5 Tryz.underlying107 Tryz.underlying5 Tryz.underlying9 g cap
@[go_sem] theorem conv1_M (n : Int) (w : World) (r : Result Value) : conv1 (some (.int .u8 n)) w r = if 0 ≤ n ∧ n < 256 then .ok (.string (tx [by8 n])) w else r := rfl
set_option maxHeartbeats 4000000 in
/-- The text of a number that a mark leaves. -/
theorem markText_some (n : Nat) (hn : 1 ≤ n ∧ n ≤ 8796097216512) (w : World) :
    Calls Tryz.prog 48 #[.int .i64 (n : Int)] w fun e w' => ∃ l, e = .returned (.string (tx l)) ∧ Below w.heap.size w w' := by
  have h0 : ¬ (n : Int) ≤ 0 := by omega
  have h1 : ¬ n = 0 := by omega
  go_enter Tryz.func48, Tryz.ntmps48
  go_wp2
  go_loopw [0, 3] (fun i u wr => ∃ (m : Nat) (l : List UInt8), i = .int .i64 (m : Int) ∧ u = .string (tx l) ∧ l.length + m ≤ n ∧ Below w.heap.size w wr) (fun i u wr => (intOf i).toNat)
  case atStart => exact ⟨n, [], rfl, rfl, by simp, by repeat' (first | with_reducible exact Below.refl _ _ | with_reducible assumption | with_reducible refine Below.drew ?_ | with_reducible refine Below.drewN ?_ _ | with_reducible refine Below.alloc ?_ ?_ _ | with_reducible refine Below.setCell ?_ ?_ _ | with_reducible refine Below.setRow ?_ ?_ _ | with_reducible refine below_step (by assumption) ?_ ?_ | (show (_ : Nat) ≤ _; first | omega | (simp <;> omega)))⟩
  case round =>
    obtain ⟨m, l, rfl, rfl, hl, hb⟩ := hrel
    have hszw := hb.size
    by_cases hm : 0 < m
    · have hm2 : (0 : Int) < (m : Int) := by omega
      have hq : (m : Int).tdiv 10 = ((m / 10 : Nat) : Int) := by rw [Int.tdiv_eq_ediv_of_nonneg (by omega)]; omega
      have hr : (m : Int).tmod 10 = ((m % 10 : Nat) : Int) := by rw [Int.tmod_eq_emod_of_nonneg (by omega)]; omega
      have hr10 : m % 10 < 10 := Nat.mod_lt _ (by omega)
      have hq10 : m / 10 < m := Nat.div_lt_self hm (by omega)
      generalize m % 10 = r at *
      generalize m / 10 = q at *
      have hw2 : IntKind.i64.wrap (48 + (r : Int)) = 48 + (r : Int) := IntWalk.i64_in _ (by omega)
      have hw3 : IntKind.u8.wrap (48 + (r : Int)) = 48 + (r : Int) := by simp only [IntKind.wrap, IntKind.bits, IntKind.signed]; simp; omega
      have hw4 : IntKind.i64.wrap (r : Int) = (r : Int) := IntWalk.i64_in _ (by omega)
      have hw1 : IntKind.i64.wrap (q : Int) = (q : Int) := IntWalk.i64_in _ (by omega)
      have ha : 0 ≤ 48 + (r : Int) := by omega
      have hb2 : 48 + (r : Int) < 256 := by omega
      have hc : ¬ 9223372036854775807 < 1 + l.length := by omega
      have hc2 : 1 + l.length ≤ 9223372036854775807 := by omega
      go_wp2
      go_roundw
      case rel => exact ⟨q, by8 (48 + (r : Int)) :: l, by go_num, by first | rfl | simp, by simp; omega, by repeat' (first | with_reducible exact Below.refl _ _ | with_reducible assumption | with_reducible refine Below.drew ?_ | with_reducible refine Below.drewN ?_ _ | with_reducible refine Below.alloc ?_ ?_ _ | with_reducible refine Below.setCell ?_ ?_ _ | with_reducible refine Below.setRow ?_ ?_ _ | with_reducible refine below_step (by assumption) ?_ ?_ | (show (_ : Nat) ≤ _; first | omega | (simp <;> omega)))⟩
      case measure => simp [intOf] <;> omega
    · have hm0 : m = 0 := by omega
      subst hm0
      have hc : ¬ 9223372036854775807 < 1 + l.length := by omega
      have hc2 : 1 + l.length ≤ 9223372036854775807 := by omega
      go_wp2
      go_ret
      exact ⟨_, rfl, by repeat' (first | with_reducible exact Below.refl _ _ | with_reducible assumption | with_reducible refine Below.drew ?_ | with_reducible refine Below.drewN ?_ _ | with_reducible refine Below.alloc ?_ ?_ _ | with_reducible refine Below.setCell ?_ ?_ _ | with_reducible refine Below.setRow ?_ ?_ _ | with_reducible refine below_step (by assumption) ?_ ?_ | (show (_ : Nat) ≤ _; first | omega | (simp <;> omega)))⟩
set_option maxHeartbeats 4000000 in
theorem markStringS_fr (v : Value) (n b M : Nat) (k0 : Int) (hk0 : 1 ≤ k0 ∧ k0 ≤ 8796093022208) (hn : n ≤ 1048576) (w : World) (hM : M ≤ w.heap.size) (h : SpS w b M v n 1) :
    Calls Tryz.prog 24 #[v, .int .i64 k0] w fun e w' => e = .returned (.int .i64 (k0 + (n : Int))) ∧ FrM b M w w' := by
  have HH := Lib.hid h
  obtain ⟨a, cap, rfl⟩ := h.len
  clear h
  go_enter Tryz.func24, Tryz.ntmps24
  go_wp2
  go_loopw [5, 1] (fun i u wr => ∃ k : Nat, k ≤ n ∧ i = .int .i64 k ∧ u = .int .i64 (k0 + (k : Int)) ∧ FrM b M w wr) (fun i u wr => n + 1 - (intOf i).toNat)
  case atStart => exact ⟨0, by omega, rfl, by go_num, FrM.refl _ _ _⟩
  case round =>
    obtain ⟨k, hk, rfl, rfl, hfm⟩ := hrel
    have HFM := Lib.hid hfm
    have hszw := hfm.size
    clear hfm
    by_cases hlt : k < n
    · rcases HH.out with ⟨-, h0⟩ | ⟨q0, cap', hv, hq1, hq2, hq3, hfr, hsz⟩
      · omega
      simp only [Value.slice.injEq] at hv
      obtain ⟨rfl, -, rfl⟩ := hv
      obtain ⟨f1, f2⟩ := HFM.out.shape q0 hq3
      rw [hfr] at f1
      obtain ⟨d, hd⟩ : ∃ d, rowOf wr q0 = d := ⟨_, rfl⟩
      rw [hd] at f2
      have hds : n ≤ d.size := by omega
      have hgw : q0 < wr.heap.size := by omega
      have hlt2 : (k : Int) < (n : Int) := by omega
      have hk2 : k < d.size := by omega
      obtain ⟨u0, hu0⟩ : ∃ u, d[k]? = some u := ⟨_, Array.getElem?_eq_getElem hk2⟩
      have hw1 : IntKind.i64.wrap ((k : Int) + 1) = ((k + 1 : Nat) : Int) := by rw [IntWalk.i64_in _ (by omega)]; rfl
      have hw2 : IntKind.i64.wrap (k0 + (k : Int) + 1) = k0 + ((k + 1 : Nat) : Int) := by rw [IntWalk.i64_in _ (by omega)]; omega
      have hqc : b ≤ q0 ∧ q0 < M := ⟨hq1, hq2⟩
      clear f2 hsz hfr
      obtain ⟨t, ht⟩ : ∃ t : Nat, k0 + (k : Int) = (t : Int) := ⟨(k0 + (k : Int)).toNat, by omega⟩
      rw [ht] at hw2 ⊢
      have HT := Lib.hid (fun w => markText_some t (by omega) w)
      go_wp2_with (go_at_call 48; refine (HT.out _).mono ?_; rintro e w1 ⟨l, rfl, hb1⟩; have r_hb1 := keep_rowA hb1; have f_hb1 := keep_frA hb1; have s_hb1 := hb1.size; (try simp only [World.size_alloc, World.size_setCell, setRow_size, World.size_drew, size_drewNm] at r_hb1 f_hb1 s_hb1))
      have hb1' : FrM b M w w1 := HFM.out.trans (FrM.of_below (hb1))
      go_roundw
      case rel => exact ⟨k + 1, by omega, by go_num, by first | (rw [hw2]) | go_num, hb1'.cell hqc _ _⟩
      case measure => simp [intOf]; omega
    · have hke : k = n := by omega
      subst hke
      go_wp2
      go_ret
      exact ⟨rfl, HFM.out⟩
end Go.Proofs.YtifhffnppgkjgaaGreatDoor
