/- How much goes over: the reference's word; what a press leaves of the world. -/
import Derived.Test.YtbnhhjjhjjmmjaaPairsV
import Derived.Test.YtbnhhjjhjjmmjaaDiff
namespace Go.Proofs.Ytbnhhjjhjjmmjaa
open Go.RowKit
set_option linter.unusedVariables false
set_option linter.unusedSimpArgs false
set_option maxRecDepth 100000
theorem absI_mag (n : Int) : absI n = mag n := by unfold absI mag; split <;> split <;> omega
set_option maxHeartbeats 1000000 in
theorem l03Goes_q (a b p : Int) (ha : 0 ≤ a ∧ a ≤ 1000) (hb : 0 ≤ b ∧ b ≤ 1000) (hp : 1 ≤ p ∧ p ≤ 8) (w : World) : Calls Try.prog 85 #[.int .i16 a, .int .i16 b, .int .i8 p] w fun e w' => e = .returned (.int .i16 (mvI p a b)) ∧ w' = w := by
  have ⟨a1, a2⟩ := ha
  have ⟨b1, b2⟩ := hb
  have ⟨p1, p2⟩ := hp
  by_cases h : b < a
  · have hm := mul_part (v := a - b) (p := p) (by omega) (by omega)
    have hv : mvI p a b = (a - b) * p / 16 := if_pos h
    have hd : mag (a - b) = a - b := by unfold mag; rw [if_pos (by omega)]
    have HM := Lib.hid (fun w => l01Size_m (a - b) (by omega) w)
    rw [hd] at HM
    rw [hv]
    have ⟨q1, q2, q3⟩ := hm
    have hn : ¬ (a - b < 0) := by omega
    clear hv hd hm ha hb hp
    go_enter Try.func85, Try.ntmps85
    go_wp2_with (go_at_call 86; refine (HM.out _).mono ?_; rintro e w1 ⟨rfl, rfl⟩)
    go_ret
    exact ⟨rfl, rfl⟩
  · by_cases h2 : a = b
    · subst h2
      have hv : mvI p a a = 0 := by unfold mvI; rw [if_neg h]; simp
      have hd : mag 0 = 0 := by decide
      have HM := Lib.hid (fun w => l01Size_m 0 (by omega) w)
      rw [hd] at HM
      rw [hv]
      clear hv hd h
      go_enter Try.func85, Try.ntmps85
      go_wp2_with (go_at_call 86; refine (HM.out _).mono ?_; rintro e w1 ⟨rfl, rfl⟩)
      go_ret
      exact ⟨rfl, rfl⟩
    · have hm := mul_part (v := b - a) (p := p) (by omega) (by omega)
      have hv : mvI p a b = -((b - a) * p / 16) := if_neg h
      have hd : mag (a - b) = b - a := by unfold mag; rw [if_neg (by omega)]; omega
      have HM := Lib.hid (fun w => l01Size_m (a - b) (by omega) w)
      rw [hd] at HM
      rw [hv]
      have ⟨q1, q2, q3⟩ := hm
      have hn : a - b < 0 := by omega
      clear hv hd hm ha hb hp h h2
      go_enter Try.func85, Try.ntmps85
      go_wp2_with (go_at_call 86; refine (HM.out _).mono ?_; rintro e w1 ⟨rfl, rfl⟩)
      go_ret
      exact ⟨rfl, rfl⟩
theorem abs_le {p a b : Int} (hp : 1 ≤ p ∧ p ≤ 8) (ha : 0 ≤ a ∧ a ≤ 1000) (hb : 0 ≤ b ∧ b ≤ 1000) : -1000 ≤ mvI p a b ∧ mvI p a b ≤ 1000 := by
  have g := mvI_in hp ha hb
  by_cases hh : b < a
  · have := g.1 hh; omega
  · have := g.2 (by omega); omega
theorem below_trans_le {B B' : Nat} {w w1 w2 : World} (h1 : Below B' w w1) (h2 : Below B w1 w2) (hB : B ≤ B') : Below B w w2 :=
  Below.trans (Below.mono h1 hB) h2
/-- What a call of one press leaves of the world. -/
def OneP (p B : Nat) (w w' : World) (s : PS) : Prop := rowOf w' p = kc sk 266 s.c ∧ frOf w' p = (0, 0) ∧ w.heap.size ≤ w'.heap.size ∧ (∀ b, b ≠ p → b < w.heap.size → rowOf w' b = rowOf w b ∧ frOf w' b = frOf w b) ∧ Below B w w'
theorem pairs_somes {w : World} {base : Nat} {e : TypeId} {v : Value} {n : Nat} {xs : List Value} (h : w.ownsRow base e 4 v n xs) (hn : 0 < n) :
    ∃ g cap, v = .slice (some ⟨g, 0, none⟩) n cap ∧ base ≤ g ∧ g < w.heap.size ∧ ∀ (j : Nat) (u : Value), xs[j]? = some u → (rowOf w g)[j]? = some u := by
  obtain ⟨hl, ⟨rfl, rfl⟩ | ⟨g, cap, cur, rfl, hb, hg, h1, h2, h3, ht⟩⟩ := h
  · omega
  · refine ⟨g, cap, rfl, hb, (Array.getElem?_eq_some_iff.1 hg).1, fun j u hj => ?_⟩
    have hrow : rowOf w g = cur := by simp [rowOf, hg, objRow]
    rw [hrow, ← Array.getElem?_toList]
    rw [← ht, List.getElem?_take] at hj
    split at hj
    · exact hj
    · cases hj
theorem sk_wet2 {x y : Nat} (hx : x < 8) (hy : y < 8) : sk (2 + y * 8 + x) = .i16 := by unfold sk; rw [if_neg (by omega), if_pos (by omega)]
end Go.Proofs.Ytbnhhjjhjjmmjaa
