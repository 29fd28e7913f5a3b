/- The places of a list, each once: the program's set; how long it is. -/
import Derived.Test.YtkdfkhjoijfcdaaSetS
import Derived.Test.YtkdfkhjoijfcdaaThat
import Derived.Test.YtkdfkhjoijfcdaaInsI
namespace Go.Proofs.Ytkdfkhjoijfcdaa
open Go.RowKit
set_option linter.unusedVariables false
set_option linter.unusedSimpArgs false
set_option maxRecDepth 100000
/-- Two neighbours are one place. -/
def AdjE (f : Nat → Int) (k : Nat) : Prop := f (k * 2) = f (k * 2 + 2) ∧ f (k * 2 + 1) = f (k * 2 + 3)
def NoAdj (f : Nat → Int) (n : Nat) : Prop := ∀ k, k + 1 < n → ¬ AdjE f k
def Dis (f : Nat → Int) (n : Nat) : Prop := ∀ i j, i < j → j < n → ¬ (f (i * 2) = f (j * 2) ∧ f (i * 2 + 1) = f (j * 2 + 1))
theorem ltS_anti {a b : Int × Int} (h1 : ltOf cpS a b = false) (h2 : ltOf cpS b a = false) : a = b := by
  rw [ltS] at h1 h2
  have h1 := of_decide_eq_false h1
  have h2 := of_decide_eq_false h2
  obtain ⟨a1, a2⟩ := a
  obtain ⟨b1, b2⟩ := b
  simp only at h1 h2
  have e2 : a2 = b2 := by omega
  subst e2
  have e1 : a1 = b1 := by omega
  rw [e1]
theorem unp_even (d : Array (Int × Int)) (i : Nat) : unp d (i * 2) = d[i]!.1 ∧ unp d (i * 2 + 1) = d[i]!.2 := by
  unfold unp
  constructor
  · rw [if_pos (by omega), show i * 2 / 2 = i by omega]
  · rw [if_neg (by omega), show (i * 2 + 1) / 2 = i by omega]
theorem nodup_at {d : Array (Int × Int)} : d.toList.Nodup ↔ ∀ i j, i < j → j < d.size → d[i]! ≠ d[j]! := by
  unfold List.Nodup
  rw [List.pairwise_iff_getElem]
  constructor
  · intro h i j hij hj
    have := h i j (by simpa using (show i < d.size by omega)) (by simpa using hj) hij
    rw [getElem!_pos d i (by omega), getElem!_pos d j hj]
    simpa using this
  · intro h i j hi hj hij
    have := h i j hij (by simpa using hj)
    rw [getElem!_pos d i (by simpa using hi), getElem!_pos d j (by simpa using hj)] at this
    simpa using this
theorem sorted_dis {f : Nat → Int} {n : Nat} {d : Array (Int × Int)} (hp : Sort.PermIn 0 n (prs f n) d) (hs : Sort.SortedIn (ltOf cpS) 0 n d) : NoAdj (unp d) n ↔ Dis f n := by
  have hd : d.size = n := hp.1.trans (prs_size f n)
  have hpm := hp.2.2
  have e1 : d.extract 0 n = d := by rw [← hd]; simp
  have e2 : (prs f n).extract 0 n = prs f n := by
    have := prs_size f n
    calc (prs f n).extract 0 n = (prs f n).extract 0 (prs f n).size := by rw [this]
      _ = prs f n := by simp
  rw [e1, e2] at hpm
  have hN : d.toList.Nodup ↔ (prs f n).toList.Nodup := hpm.nodup_iff
  rw [nodup_at, nodup_at, hd, prs_size] at hN
  have h3 : (∀ i j, i < j → j < n → (prs f n)[i]! ≠ (prs f n)[j]!) ↔ Dis f n := by
    constructor
    · intro h i j hij hj g
      refine h i j hij hj ?_
      rw [prs_at f (by omega), prs_at f hj, g.1, g.2]
    · intro h i j hij hj g
      rw [prs_at f (by omega), prs_at f hj] at g
      simp only [Prod.mk.injEq] at g
      exact h i j hij hj g
  rw [← h3, ← hN]
  constructor
  · intro h i j hij hj e
    refine h i (by omega) ?_
    have q : d[i]! = d[i + 1]! := by
      refine ltS_anti ?_ (hs i (i + 1) (by omega) (by omega) (by omega))
      rcases Nat.eq_or_lt_of_le (show i + 1 ≤ j by omega) with h1 | h1
      · rw [h1, ← e]; exact swoS.irrefl _
      · rw [e]; exact hs (i + 1) j (by omega) h1 hj
    unfold AdjE
    rw [show i * 2 + 2 = (i + 1) * 2 by omega, show i * 2 + 3 = (i + 1) * 2 + 1 by omega, (unp_even d i).1, (unp_even d i).2, (unp_even d (i + 1)).1, (unp_even d (i + 1)).2, q]
    exact ⟨rfl, rfl⟩
  · intro h k hk g
    refine h k (k + 1) (by omega) hk ?_
    unfold AdjE at g
    rw [show k * 2 + 2 = (k + 1) * 2 by omega, show k * 2 + 3 = (k + 1) * 2 + 1 by omega, (unp_even d k).1, (unp_even d k).2, (unp_even d (k + 1)).1, (unp_even d (k + 1)).2] at g
    exact Prod.ext g.1 g.2
set_option maxHeartbeats 8000000 in
theorem compact_spots (g n cap : Nat) (f : Nat → Int) (hn : n ≤ 1048576) (hcap : n ≤ cap) (hcap2 : cap ≤ 9223372036854775807) (w : World) (hr : ∀ j, j < n * 2 → (rowOf w g)[j]? = some (.int .i8 (f j))) (hfr : frOf w g = (0, 0)) (hg : g < w.heap.size) :
    Calls Try.prog 67 #[.slice (some ⟨g, 0, none⟩) n cap] w fun e w' => ∃ m, e = .returned (.slice (some ⟨g, 0, none⟩) m cap) ∧ m ≤ n ∧ (m = n ↔ NoAdj f n) ∧ Below g w w' := by
  have HR := Lib.hid hr
  clear hr
  by_cases h2 : n < 2
  · have HM := Lib.hid (show n = n ↔ NoAdj f n from ⟨fun _ k hk => absurd hk (by omega), fun _ => rfl⟩)
    have h2i : (n : Int) < 2 := by omega
    clear h2
    go_enter Try.func67, Try.ntmps67
    go_wp2
    go_ret
    exact ⟨n, rfl, Nat.le_refl _, by simpa using HM.out, by repeat' (first | with_reducible exact Below.refl _ _ | with_reducible assumption | with_reducible refine Below.drew ?_ | with_reducible refine Below.drewN ?_ _ | with_reducible refine Below.alloc ?_ ?_ _ | with_reducible refine Below.setCell ?_ ?_ _ | with_reducible refine Below.setRow ?_ ?_ _ | with_reducible refine below_step (by assumption) ?_ ?_ | (show (_ : Nat) ≤ _; first | omega | (simp <;> omega)))⟩
  have h2i : ¬ (n : Int) < 2 := by omega
  go_enter Try.func67, Try.ntmps67
  go_wp2
  go_loopw [3] (fun i wr => ∃ k : Nat, 1 ≤ k ∧ k ≤ n ∧ i = .int .i64 k ∧ Below w.heap.size w wr ∧ NoAdj f k) (fun i wr => n - (intOf i).toNat)
  case atStart => exact ⟨1, by omega, by omega, rfl, by repeat' (first | with_reducible exact Below.refl _ _ | with_reducible assumption | with_reducible refine Below.drew ?_ | with_reducible refine Below.drewN ?_ _ | with_reducible refine Below.alloc ?_ ?_ _ | with_reducible refine Below.setCell ?_ ?_ _ | with_reducible refine Below.setRow ?_ ?_ _ | with_reducible refine below_step (by assumption) ?_ ?_ | (show (_ : Nat) ≤ _; first | omega | (simp <;> omega))), fun k hk => absurd hk (by omega)⟩
  case round =>
    obtain ⟨k, hk1, hk, rfl, hb, hna⟩ := hrel
    have HNA := Lib.hid hna
    have hszw := hb.size
    have hrow := keep_row hb hg
    have hfrw := (keep_fr hb hg).trans hfr
    have hgw : g < wr.heap.size := Nat.lt_of_lt_of_le hg hszw
    clear hna
    by_cases hlt : k < n
    · obtain ⟨q, rfl⟩ : ∃ q, k = q + 1 := ⟨k - 1, by omega⟩
      have e1 := HR.out ((q + 1) * 2) (by omega)
      have e2 := HR.out ((q + 1) * 2 + 1) (by omega)
      have e3 := HR.out (q * 2) (by omega)
      have e4 := HR.out (q * 2 + 1) (by omega)
      rw [← hrow] at e1 e2 e3 e4
      have hkm : IntKind.i64.wrap (((q + 1 : Nat) : Int) - 1) = (q : Int) := by rw [IntWalk.i64_in _ (by omega)]; omega
      have hkm2 : IntKind.i64.wrap ((q : Int) + 1 - 1) = (q : Int) := by rw [IntWalk.i64_in _ (by omega)]; omega
      have hlt2 : ((q + 1 : Nat) : Int) < (n : Int) := by omega
      have hlt3 : (q : Int) < (n : Int) := by omega
      have hA : AdjE f q ↔ f (q * 2) = f ((q + 1) * 2) ∧ f (q * 2 + 1) = f ((q + 1) * 2 + 1) := by
        unfold AdjE
        rw [show (q + 1) * 2 = q * 2 + 2 by omega]
      have HNX := Lib.hid (fun (h : ¬ AdjE f q) => show NoAdj f (q + 1 + 1) from fun j hj => by
        rcases Nat.lt_or_ge j q with h1 | h1
        · exact HNA.out j (by omega)
        · obtain rfl : j = q := by omega
          exact h)
      have HNO := Lib.hid (fun (h : AdjE f q) (m : Nat) (hm : m < n) => show m = n ↔ NoAdj f n from ⟨fun e => by omega, fun g => absurd h (g q (by omega))⟩)
      rw [hA] at HNX HNO
      clear hA hrow
      generalize f ((q + 1) * 2) = a1 at *
      generalize f ((q + 1) * 2 + 1) = a2 at *
      generalize f (q * 2) = b1 at *
      generalize f (q * 2 + 1) = b2 at *
      by_cases ha : b1 = a1 ∧ b2 = a2
      · obtain ⟨rfl, rfl⟩ := ha
        have HNO2 := Lib.hid (HNO.out ⟨rfl, rfl⟩)
        obtain ⟨z, hz1, hz2, hz3⟩ := spot_zero
        have HZ := Lib.hid (And.intro hz1 (And.intro hz2 hz3))
        have hcq : ¬ cap = q + 1 := by omega
        have hcq2 : ((q + 1 : Nat) : Int) ≤ (n : Int) := by omega
        clear hz1 hz2 hz3 HNX HNO
        obtain ⟨L, hL⟩ : ∃ L, n - (q + 1) = L := ⟨_, rfl⟩
        have hR0 : n * 2 ≤ (rowOf w g).size := by
          have := (Array.getElem?_eq_some_iff.1 (HR.out (n * 2 - 1) (by omega))).1
          omega
        go_wp2
        go_quiet (fail)
        go_wp2
        go_loopw [5, 3] (fun i s wr => ∃ (k2 kk : Nat) (d : Array Value) (h : Nat → Int), 1 ≤ k2 ∧ k2 ≤ L ∧ q + 1 ≤ kk ∧ kk ≤ q + k2 ∧ i = .int .i64 k2 ∧ s = .int .i64 kk ∧ Below g w wr ∧ frOf wr g = (0, 0) ∧ rowOf wr g = d ∧ n * 2 ≤ d.size ∧ ∀ j, j < n * 2 → d[j]? = some (.int .i8 (h j))) (fun i s wr => L + 1 - (intOf i).toNat)
        case atStart => exact ⟨1, q + 1, rowOf w g, f, by omega, by omega, by omega, by omega, rfl, by first | rfl | simp, below_le (B := w.heap.size) (by repeat' (first | with_reducible exact Below.refl _ _ | with_reducible assumption | with_reducible refine Below.drew ?_ | with_reducible refine Below.drewN ?_ _ | with_reducible refine Below.alloc ?_ ?_ _ | with_reducible refine Below.setCell ?_ ?_ _ | with_reducible refine Below.setRow ?_ ?_ _ | with_reducible refine below_step (by assumption) ?_ ?_ | (show (_ : Nat) ≤ _; first | omega | (simp <;> omega)))) (by omega), by (go_simp <;> (intros; omega)), by have hrr := keep_row hb hg; (go_simp <;> (intros; omega)), hR0, HR.out⟩
        case round =>
          clear hb hszw hfrw hgw e1 e2 e3 e4
          obtain ⟨k2, kk, d, h, h21, h2L, hkq, hkk, rfl, rfl, hb, hfr2, hrd, hds, hd⟩ := hrel
          have HD := Lib.hid hd
          have hszw := hb.size
          have hgw : g < wr.heap.size := Nat.lt_of_lt_of_le hg hszw
          clear hd
          by_cases hlt : k2 < L
          · obtain ⟨p, rfl⟩ : ∃ p, k2 = p + 1 := ⟨k2 - 1, by omega⟩
            have e1 := HD.out ((q + 1) * 2 + (p + 1) * 2) (by omega)
            have e2 := HD.out ((q + 1) * 2 + (p + 1) * 2 + 1) (by omega)
            have e3 := HD.out ((q + 1) * 2 + p * 2) (by omega)
            have e4 := HD.out ((q + 1) * 2 + p * 2 + 1) (by omega)
            have hpm : IntKind.i64.wrap (((p + 1 : Nat) : Int) - 1) = (p : Int) := by rw [IntWalk.i64_in _ (by omega)]; omega
            have hpm2 : IntKind.i64.wrap ((p : Int) + 1 - 1) = (p : Int) := by rw [IntWalk.i64_in _ (by omega)]; omega
            have hltL : ((p + 1 : Nat) : Int) < (L : Int) := by omega
            have hltL2 : (p : Int) < (L : Int) := by omega
            have hkn : (kk : Int) < (n : Int) := by omega
            have hkn2 : kk < n := by omega
            have hds1 : kk * 2 + 2 ≤ d.size := by omega
            have HUP := Lib.hid (show ∀ j, j < n * 2 → ((d.setIfInBounds (kk * 2) (.int .i8 (h ((q + 1) * 2 + (p + 1) * 2)))).setIfInBounds (kk * 2 + 1) (.int .i8 (h ((q + 1) * 2 + (p + 1) * 2 + 1))))[j]? = some (.int .i8 (upI (upI h (kk * 2) (h ((q + 1) * 2 + (p + 1) * 2))) (kk * 2 + 1) (h ((q + 1) * 2 + (p + 1) * 2 + 1)) j)) from fun j hj => by
              by_cases j1 : j = kk * 2 + 1
              · subst j1
                rw [Array.getElem?_setIfInBounds_self_of_lt (by rw [Array.size_setIfInBounds]; omega)]
                unfold upI
                rw [if_pos rfl]
              · rw [Array.getElem?_setIfInBounds_ne (by omega)]
                by_cases j0 : j = kk * 2
                · subst j0
                  rw [Array.getElem?_setIfInBounds_self_of_lt (by omega)]
                  unfold upI
                  rw [if_neg (by omega), if_pos rfl]
                · rw [Array.getElem?_setIfInBounds_ne (by omega), HD.out j hj]
                  unfold upI
                  rw [if_neg j1, if_neg j0])
            obtain ⟨u0, hdk⟩ : ∃ u0, d[kk * 2]? = some u0 := ⟨_, Array.getElem?_eq_getElem (by omega)⟩
            obtain ⟨u1, hdk1⟩ : ∃ u1, d[kk * 2 + 1]? = some u1 := ⟨_, Array.getElem?_eq_getElem (by omega)⟩
            generalize h ((q + 1) * 2 + (p + 1) * 2) = a1 at *
            generalize h ((q + 1) * 2 + (p + 1) * 2 + 1) = a2 at *
            generalize h ((q + 1) * 2 + p * 2) = c1 at *
            generalize h ((q + 1) * 2 + p * 2 + 1) = c2 at *
            by_cases h1 : a1 = c1
            · by_cases h2 : a2 = c2
              · subst h1
                subst h2
                go_wp2
                go_quiet (fail)
                go_wp2
                go_roundw
                case rel => first | exact ⟨p + 1 + 1, kk, d, h, by omega, by omega, by omega, by omega, by go_num, rfl, by repeat' (first | with_reducible exact Below.refl _ _ | with_reducible assumption | with_reducible refine Below.drew ?_ | with_reducible refine Below.drewN ?_ _ | with_reducible refine Below.alloc ?_ ?_ _ | with_reducible refine Below.setCell ?_ ?_ _ | with_reducible refine Below.setRow ?_ ?_ _ | with_reducible refine below_step (by assumption) ?_ ?_ | (show (_ : Nat) ≤ _; first | omega | (simp <;> omega))), by (go_simp <;> (intros; omega)), by (go_simp <;> (intros; omega)), hds, HD.out⟩ | ((repeat (with_reducible apply Exists.intro)); refine And.intro ?_ ?_; rotate_left; (focus ((repeat' (with_reducible apply And.intro)) <;> rfl)); exact ⟨p + 1 + 1, kk, d, h, by omega, by omega, by omega, by omega, by go_num, rfl, by repeat' (first | with_reducible exact Below.refl _ _ | with_reducible assumption | with_reducible refine Below.drew ?_ | with_reducible refine Below.drewN ?_ _ | with_reducible refine Below.alloc ?_ ?_ _ | with_reducible refine Below.setCell ?_ ?_ _ | with_reducible refine Below.setRow ?_ ?_ _ | with_reducible refine below_step (by assumption) ?_ ?_ | (show (_ : Nat) ≤ _; first | omega | (simp <;> omega))), by (go_simp <;> (intros; omega)), by (go_simp <;> (intros; omega)), hds, HD.out⟩)
                case measure => simp [intOf] <;> omega
              · subst h1
                have h2b : (a2 == c2) = false := by simpa using h2
                go_wp2
                go_quiet (fail)
                go_wp2
                go_roundw
                case rel => first | exact ⟨p + 1 + 1, kk + 1, (d.setIfInBounds (kk * 2) (.int .i8 a1)).setIfInBounds (kk * 2 + 1) (.int .i8 a2), upI (upI h (kk * 2) a1) (kk * 2 + 1) a2, by omega, by omega, by omega, by omega, by go_num, by go_num, by repeat' (first | with_reducible exact Below.refl _ _ | with_reducible assumption | with_reducible refine Below.drew ?_ | with_reducible refine Below.drewN ?_ _ | with_reducible refine Below.alloc ?_ ?_ _ | with_reducible refine Below.setCell ?_ ?_ _ | with_reducible refine Below.setRow ?_ ?_ _ | with_reducible refine below_step (by assumption) ?_ ?_ | (show (_ : Nat) ≤ _; first | omega | (simp <;> omega))), by (go_simp <;> (intros; omega)), by (go_simp <;> (intros; omega)), by simpa using hds, HUP.out⟩ | ((repeat (with_reducible apply Exists.intro)); refine And.intro ?_ ?_; rotate_left; (focus ((repeat' (with_reducible apply And.intro)) <;> rfl)); exact ⟨p + 1 + 1, kk + 1, (d.setIfInBounds (kk * 2) (.int .i8 a1)).setIfInBounds (kk * 2 + 1) (.int .i8 a2), upI (upI h (kk * 2) a1) (kk * 2 + 1) a2, by omega, by omega, by omega, by omega, by go_num, by go_num, by repeat' (first | with_reducible exact Below.refl _ _ | with_reducible assumption | with_reducible refine Below.drew ?_ | with_reducible refine Below.drewN ?_ _ | with_reducible refine Below.alloc ?_ ?_ _ | with_reducible refine Below.setCell ?_ ?_ _ | with_reducible refine Below.setRow ?_ ?_ _ | with_reducible refine below_step (by assumption) ?_ ?_ | (show (_ : Nat) ≤ _; first | omega | (simp <;> omega))), by (go_simp <;> (intros; omega)), by (go_simp <;> (intros; omega)), by simpa using hds, HUP.out⟩)
                case measure => simp [intOf] <;> omega
            · have h1b : (a1 == c1) = false := by simpa using h1
              go_wp2
              go_quiet (fail)
              go_wp2
              go_roundw
              case rel => first | exact ⟨p + 1 + 1, kk + 1, (d.setIfInBounds (kk * 2) (.int .i8 a1)).setIfInBounds (kk * 2 + 1) (.int .i8 a2), upI (upI h (kk * 2) a1) (kk * 2 + 1) a2, by omega, by omega, by omega, by omega, by go_num, by go_num, by repeat' (first | with_reducible exact Below.refl _ _ | with_reducible assumption | with_reducible refine Below.drew ?_ | with_reducible refine Below.drewN ?_ _ | with_reducible refine Below.alloc ?_ ?_ _ | with_reducible refine Below.setCell ?_ ?_ _ | with_reducible refine Below.setRow ?_ ?_ _ | with_reducible refine below_step (by assumption) ?_ ?_ | (show (_ : Nat) ≤ _; first | omega | (simp <;> omega))), by (go_simp <;> (intros; omega)), by (go_simp <;> (intros; omega)), by simpa using hds, HUP.out⟩ | ((repeat (with_reducible apply Exists.intro)); refine And.intro ?_ ?_; rotate_left; (focus ((repeat' (with_reducible apply And.intro)) <;> rfl)); exact ⟨p + 1 + 1, kk + 1, (d.setIfInBounds (kk * 2) (.int .i8 a1)).setIfInBounds (kk * 2 + 1) (.int .i8 a2), upI (upI h (kk * 2) a1) (kk * 2 + 1) a2, by omega, by omega, by omega, by omega, by go_num, by go_num, by repeat' (first | with_reducible exact Below.refl _ _ | with_reducible assumption | with_reducible refine Below.drew ?_ | with_reducible refine Below.drewN ?_ _ | with_reducible refine Below.alloc ?_ ?_ _ | with_reducible refine Below.setCell ?_ ?_ _ | with_reducible refine Below.setRow ?_ ?_ _ | with_reducible refine below_step (by assumption) ?_ ?_ | (show (_ : Nat) ≤ _; first | omega | (simp <;> omega))), by (go_simp <;> (intros; omega)), by (go_simp <;> (intros; omega)), by simpa using hds, HUP.out⟩)
              case measure => simp [intOf] <;> omega
          · have hke : k2 = L := by omega
            subst hke
            have hkn : kk < n := by omega
            have hkn2 : (kk : Int) < (n : Int) := by omega
            have hkn3 : (kk : Int) ≤ (n : Int) := by omega
            have hkn4 : ¬ cap = kk := by omega
            have hkn5 : kk ≤ cap := by omega
            have hkn6 : (kk : Int) ≤ (cap : Int) := by omega
            have hcl2 : ∀ ty, (Builtin.clear_ #[68] ty #[.slice (some ⟨g, kk * 2, none⟩) (n - kk) (cap - kk)]).run Try.prog wr = .ok (.tuple #[]) (wr.setRow g (splice (rowOf wr g) (kk * 2) (Builtin.zeroCells z.cells (n - kk)))) :=
              fun ty => run_clear_wide wr _ _ ty z 2 Try.underlying68 HZ.out.1 HZ.out.2.1 HZ.out.2.2 g _ _ _ (by omega) (by rw [hrd]; omega) hfr2
            generalize splice (rowOf wr g) (kk * 2) (Builtin.zeroCells z.cells (n - kk)) = zc at hcl2
            have HM := Lib.hid (HNO2.out kk hkn)
            go_wp2
            go_ret
            exact ⟨kk, rfl, by omega, HM.out, by repeat' (first | with_reducible exact Below.refl _ _ | with_reducible assumption | with_reducible refine Below.drew ?_ | with_reducible refine Below.drewN ?_ _ | with_reducible refine Below.alloc ?_ ?_ _ | with_reducible refine Below.setCell ?_ ?_ _ | with_reducible refine Below.setRow ?_ ?_ _ | with_reducible refine below_step (by assumption) ?_ ?_ | (show (_ : Nat) ≤ _; first | omega | (simp <;> omega)))⟩
      · have HN := Lib.hid (HNX.out ha)
        by_cases h1 : a1 = b1
        · subst h1
          have h2 : ¬ a2 = b2 := fun e => ha ⟨rfl, e.symm⟩
          have h2b : (a2 == b2) = false := by simpa using h2
          clear ha
          go_wp2
          go_quiet (fail)
          go_wp2
          go_roundw
          case rel => first | exact ⟨q + 1 + 1, by omega, by omega, by go_num, by repeat' (first | with_reducible exact Below.refl _ _ | with_reducible assumption | with_reducible refine Below.drew ?_ | with_reducible refine Below.drewN ?_ _ | with_reducible refine Below.alloc ?_ ?_ _ | with_reducible refine Below.setCell ?_ ?_ _ | with_reducible refine Below.setRow ?_ ?_ _ | with_reducible refine below_step (by assumption) ?_ ?_ | (show (_ : Nat) ≤ _; first | omega | (simp <;> omega))), HN.out⟩ | ((repeat (with_reducible apply Exists.intro)); refine And.intro ?_ ?_; rotate_left; (focus ((repeat' (with_reducible apply And.intro)) <;> rfl)); exact ⟨q + 1 + 1, by omega, by omega, by go_num, by repeat' (first | with_reducible exact Below.refl _ _ | with_reducible assumption | with_reducible refine Below.drew ?_ | with_reducible refine Below.drewN ?_ _ | with_reducible refine Below.alloc ?_ ?_ _ | with_reducible refine Below.setCell ?_ ?_ _ | with_reducible refine Below.setRow ?_ ?_ _ | with_reducible refine below_step (by assumption) ?_ ?_ | (show (_ : Nat) ≤ _; first | omega | (simp <;> omega))), HN.out⟩)
          case measure => simp [intOf] <;> omega
        · have h2b : (a1 == b1) = false := by simpa using h1
          clear ha
          go_wp2
          go_quiet (fail)
          go_wp2
          go_roundw
          case rel => first | exact ⟨q + 1 + 1, by omega, by omega, by go_num, by repeat' (first | with_reducible exact Below.refl _ _ | with_reducible assumption | with_reducible refine Below.drew ?_ | with_reducible refine Below.drewN ?_ _ | with_reducible refine Below.alloc ?_ ?_ _ | with_reducible refine Below.setCell ?_ ?_ _ | with_reducible refine Below.setRow ?_ ?_ _ | with_reducible refine below_step (by assumption) ?_ ?_ | (show (_ : Nat) ≤ _; first | omega | (simp <;> omega))), HN.out⟩ | ((repeat (with_reducible apply Exists.intro)); refine And.intro ?_ ?_; rotate_left; (focus ((repeat' (with_reducible apply And.intro)) <;> rfl)); exact ⟨q + 1 + 1, by omega, by omega, by go_num, by repeat' (first | with_reducible exact Below.refl _ _ | with_reducible assumption | with_reducible refine Below.drew ?_ | with_reducible refine Below.drewN ?_ _ | with_reducible refine Below.alloc ?_ ?_ _ | with_reducible refine Below.setCell ?_ ?_ _ | with_reducible refine Below.setRow ?_ ?_ _ | with_reducible refine below_step (by assumption) ?_ ?_ | (show (_ : Nat) ≤ _; first | omega | (simp <;> omega))), HN.out⟩)
          case measure => simp [intOf] <;> omega
    · have hke : k = n := by omega
      subst hke
      have HM := Lib.hid (show k = k ↔ NoAdj f k from ⟨fun _ => HNA.out, fun _ => rfl⟩)
      clear hrow
      go_wp2
      go_ret
      exact ⟨k, rfl, Nat.le_refl _, by simpa using HM.out, below_le (by repeat' (first | with_reducible exact Below.refl _ _ | with_reducible assumption | with_reducible refine Below.drew ?_ | with_reducible refine Below.drewN ?_ _ | with_reducible refine Below.alloc ?_ ?_ _ | with_reducible refine Below.setCell ?_ ?_ _ | with_reducible refine Below.setRow ?_ ?_ _ | with_reducible refine below_step (by assumption) ?_ ?_ | (show (_ : Nat) ≤ _; first | omega | (simp <;> omega)))) (by omega)⟩
theorem owns_sliceS {w : World} {base : Nat} {e : TypeId} {s : Nat} {v : Value} {n : Nat} {xs : List Value} (h : w.ownsRow base e s v n xs) (hn : 0 < n) : ∃ g cap, v = .slice (some ⟨g, 0, none⟩) n cap := by
  rcases h.2 with ⟨-, h0⟩ | ⟨g, cap, cur, h1, -⟩
  · omega
  · exact ⟨g, cap, h1⟩
set_option maxHeartbeats 2000000 in
theorem clone_spotsO (v : Value) (n b : Nat) (f : Nat → Int) (hn : n ≤ 1048576) (w : World) (h : OwnK .i8 2 w b v n f) :
    Calls Try.prog 64 #[v] w fun e w' => ∃ v', e = .returned v' ∧ w'.ownsRow w.heap.size 75 2 v' n ((List.range (n * 2)).map fun j => .int .i8 (f j)) ∧ Below w.heap.size w w' := by
  obtain ⟨i0, z0, hi0, hz0, hs0, hb0, hc0⟩ := spot_info
  have heq := fun a m c w => Lib.run_eql_slice_nil (P := Try.prog) w 68 75 a m c 0 0 Try.underlying68
  rcases h with ⟨rfl, rfl⟩ | ⟨g, cap, rfl, hbg, hg, hfr, hsz, hcells⟩
  · go_enter Try.func64, Try.ntmps64
    go_wp2
    go_ret
    exact ⟨_, rfl, World.ownsRow_nil _ _ _ _, by repeat' (first | with_reducible exact Below.refl _ _ | with_reducible assumption | with_reducible refine Below.drew ?_ | with_reducible refine Below.drewN ?_ _ | with_reducible refine Below.alloc ?_ ?_ _ | with_reducible refine Below.setCell ?_ ?_ _ | with_reducible refine Below.setRow ?_ ?_ _ | with_reducible refine below_step (by assumption) ?_ ?_ | (show (_ : Nat) ≤ _; first | omega | (simp <;> omega)))⟩
  · have HC := Lib.hid hcells
    clear hcells
    go_enter Try.func64, Try.ntmps64
    go_wp2_with (at_builtin; refine wpList_append_own _ rfl _ _ 68 rfl w.heap.size 75 i0 z0 2 2 Try.underlying68 hi0 hz0 hs0 hb0 hc0 (by decide) _ _ _ rfl (owns_empty w _) ⟨g, 0, none⟩ n cap ((List.range (n * 2)).map fun j => .int .i8 (f j)) rfl (by simp) ?c1 ?c2 ?c3 ?c4 ?c5 ?_)
    case c1 =>
      intro j u hj
      have hjn : j < n * 2 := by
        have := (List.getElem?_eq_some_iff.1 hj).1
        simpa using this
      rw [List.getElem?_map, List.getElem?_range hjn] at hj
      simp only [Option.map_some, Option.some.injEq] at hj
      subst hj
      have e := HC.out j hjn
      have : ((⟨g, 0, none⟩ : Addr).add j) = ⟨g, j, none⟩ := by unfold Addr.add; split <;> simp_all
      rw [this, cell_row]
      go_simp
    case c2 => intro u hu; simp at hu; obtain ⟨j, -, rfl⟩ := hu; rfl
    case c3 => unfold maxLen; omega
    case c4 => omega
    case c5 => simp
    intro v' w1 hown' hgrow _
    have hbg : Below w.heap.size w w1 := below_grown (Below.alloc (Below.refl _ _) (Nat.le_refl _) _) hgrow (fun k hk => by simp [Value.ownBlock] at hk; omega) (by simp)
    have HB := Lib.hid hbg
    have HW := Lib.hid hown'
    clear hbg hown' hgrow
    go_wp2
    go_ret
    exact ⟨_, rfl, HW.out, HB.out⟩
set_option maxHeartbeats 4000000 in
theorem set_any (v : Value) (n b : Nat) (f : Nat → Int) (h0 : 1 ≤ n) (hn : n ≤ 1048576) (w : World) (h : OwnK .i8 2 w b v n f) :
    Calls Try.prog 41 #[v] w fun e w' => ∃ a m cap, e = .returned (.slice a m cap) ∧ m ≤ n ∧ (m = n ↔ Dis f n) ∧ Below w.heap.size w w' := by
  have HCL := Lib.hid (clone_spotsO v n b f hn w h)
  have HS := Lib.hid (fun g cap w h1 h2 h3 => sort_spots g n cap f hn w h1 h2 h3)
  have HCP := Lib.hid (fun g cap f' h1 h2 w h3 h4 h5 => compact_spots g n cap f' hn h1 h2 w h3 h4 h5)
  clear h
  go_enter Try.func41, Try.ntmps41
  go_wp2_with (go_at_call 64; refine HCL.out.mono ?_; rintro e w1 ⟨v1, rfl, hown, hb1⟩; obtain ⟨g, cap, rfl⟩ := owns_sliceS hown h0; obtain ⟨hg1, hg2, hg3, hg4, hg5, hg6, -, hg7⟩ := owns_cellsV hown; clear hown)
  have hcap2 : cap ≤ 9223372036854775807 := by unfold maxLen at hg4; omega
  have hrow : ∀ j, j < n * 2 → (rowOf w1 g)[j]? = some (.int .i8 (f j)) := fun j hj => by rw [hg7 j hj, List.getElem?_map, List.getElem?_range hj]; rfl
  have HS1 := Lib.hid (HS.out g cap w1 hrow hg6 hg2)
  clear hrow hg7 hg5
  go_wp2_with (go_at_call 65; refine HS1.out.mono ?_; rintro e w2 ⟨rfl, d', hp, hs, hrow2, hfr2, hsz2, hb2⟩; have HD := Lib.hid (sorted_dis hp hs); have HC2 := Lib.hid (HCP.out g cap (unp d') hg3 hcap2 w2 hrow2 hfr2 (by omega)); have HB2 := Lib.hid hb2; clear hp hs hrow2 hb2)
  go_wp2_with (go_at_call 67; refine HC2.out.mono ?_; rintro e w3 ⟨m, rfl, hm1, hm2, hb3⟩)
  have HM := Lib.hid (And.intro hm1 (hm2.trans HD.out))
  have HB := Lib.hid (show Below w.heap.size w w3 from hb1.trans ((below_le HB2.out hg1).trans (below_le hb3 hg1)))
  clear hm1 hm2
  go_ret
  exact ⟨_, _, _, rfl, HM.out.1, HM.out.2, HB.out⟩
end Go.Proofs.Ytkdfkhjoijfcdaa
