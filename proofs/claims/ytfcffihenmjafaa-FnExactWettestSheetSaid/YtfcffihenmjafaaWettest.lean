/- The wettest sheet of a stack: both sides. -/
import Derived.Test.YtfcffihenmjafaaStackOkI
import Derived.Test.YtfcffihenmjafaaAt
import Derived.Test.YtfcffihenmjafaaWaterI
import Derived.Test.YtfcffihenmjafaaAskBase
namespace Go.Proofs.Ytfcffihenmjafaa
open Go.RowKit
set_option linter.unusedVariables false
set_option linter.unusedSimpArgs false
set_option maxRecDepth 100000
theorem res_ttt {P : Program} {fn : Func} {tmps : Array Value} {w : World} {u0 : Tmp} {x0 : Value} {u1 : Tmp} {x1 : Value} {u2 : Tmp} {x2 : Value} (h : fn.results = #[.tmp u0, .tmp u1, .tmp u2]) (hx0 : tmps.getD u0 undef = x0) (hx1 : tmps.getD u1 undef = x1) (hx2 : tmps.getD u2 undef = x2) :
    (results fn tmps).run P w = .ok (.tuple #[x0, x1, x2]) w := by
  rw [results_tmp3 h, hx0, hx1, hx2]
/-- The first of the greatest among the first numbers. -/
def bw (a : Nat → Int) : Nat → Nat × Int
  | 0 => (0, a 0)
  | k + 1 => if (bw a k).2 < a k then (k, a k) else bw a k
theorem bw_yes {a : Nat → Int} {k : Nat} (h : (bw a k).2 < a k) : bw a (k + 1) = (k, a k) := if_pos h
theorem bw_no {a : Nat → Int} {k : Nat} (h : ¬ (bw a k).2 < a k) : bw a (k + 1) = bw a k := if_neg h
theorem bw_one (a : Nat → Int) : bw a 1 = (0, a 0) := if_neg (fun h => absurd h (Int.lt_irrefl _))
theorem bw_lt (a : Nat → Int) : ∀ k, (bw a k).1 ≤ k
  | 0 => Nat.le_refl _
  | k + 1 => by
    have := bw_lt a k
    by_cases h : (bw a k).2 < a k
    · rw [bw_yes h]; exact Nat.le_succ _
    · rw [bw_no h]; omega
def watS (F : Nat → Nat → Int) (i : Nat) : Int := sumTo (wetF (F i)) 64
theorem okS_water {c : Nat → Int} (h : okS c = true) : ∃ W H : Nat, c 0 = W ∧ c 1 = H ∧ 0 < W ∧ 0 < H ∧ W ≤ 8 ∧ H ≤ 8 ∧ sumTo (fun k => wetF c (place W k)) (H * W) = sumTo (wetF c) 64 := by
  obtain ⟨W, H, hW, hH, W0, H0, W8, H8⟩ := okS_sides h
  have hok : OkS c := by simpa [okS] using h
  refine ⟨W, H, hW, hH, W0, H0, W8, H8, (sum_all (wetF c) W H W8 H8 (fun y x hx hy h => ?_)).symm⟩
  have := (out_wet hok hx hy (by omega)).1
  show c (2 + (y * 8 + x)) = 0
  rw [← Nat.add_assoc]; exact this
open Classical in
theorem stack_oks {n : Nat} {F : Nat → Nat → Int} (h : stackB n F = true) : ∀ i, i < n → okS (F i) = true := by
  intro i hi
  unfold stackB at h
  rw [Bool.and_eq_true] at h
  have h2 : StTo F n := of_decide_eq_true h.2
  have := h2 i hi
  unfold stAt at this
  rw [Bool.and_eq_true] at this
  exact this.1
noncomputable def wetV (n : Nat) (F : Nat → Nat → Int) : Value :=
  if stackB n F = true then if n = 0 then .tuple #[.int .i64 0, .int .i64 0, .int .i64 6] else .tuple #[.int .i64 ((bw (watS F) n).1 : Int), .int .i64 (bw (watS F) n).2, .int .i64 0] else .tuple #[.int .i64 0, .int .i64 0, .int .i64 1]
theorem wetV_bad {n : Nat} {F : Nat → Nat → Int} (h : stackB n F = false) : wetV n F = .tuple #[.int .i64 0, .int .i64 0, .int .i64 1] := if_neg (by rw [h]; decide)
theorem wetV_none {n : Nat} {F : Nat → Nat → Int} (h : stackB n F = true) (h0 : n = 0) : wetV n F = .tuple #[.int .i64 0, .int .i64 0, .int .i64 6] := (if_pos h).trans (if_pos h0)
theorem wetV_some {n : Nat} {F : Nat → Nat → Int} (h : stackB n F = true) (h0 : ¬ n = 0) : wetV n F = .tuple #[.int .i64 ((bw (watS F) n).1 : Int), .int .i64 (bw (watS F) n).2, .int .i64 0] := (if_pos h).trans (if_neg h0)
theorem wetV_is (n : Nat) (F : Nat → Nat → Int) : ∃ a b c : Int, wetV n F = .tuple #[.int .i64 a, .int .i64 b, .int .i64 c] := by
  unfold wetV
  split
  · split
    · exact ⟨_, _, _, rfl⟩
    · exact ⟨_, _, _, rfl⟩
  · exact ⟨_, _, _, rfl⟩
set_option maxHeartbeats 4000000 in
theorem sWettest_any (v : Value) (n : Nat) (F : Nat → Nat → Int) (hn : n ≤ 1048576) (hF : ∀ k, k < n → FitRow sk 266 (F k)) (w : World) (h : SlV 266 w v n (shV F)) :
    Calls Try.prog 18 #[v] w fun e w' => e = .returned (wetV n F) ∧ Below w.heap.size w w' := by
  have hL := fun w h => l05Ok_any v n F hn hF w h
  obtain ⟨a, cap, rfl⟩ := h.len
  have HH := Lib.hid h
  clear h
  rcases Bool.eq_false_or_eq_true (stackB n F) with ho | ho
  · have hok := stack_oks ho
    rw [ho] at hL
    have HL := Lib.hid hL
    by_cases h0 : n = 0
    · rw [wetV_none ho h0]
      subst h0
      clear hL ho hok hF
      go_enter Try.func18, Try.ntmps18
      go_wp2_with (go_at_call 56; refine (HL.out _ (HH.out.below (by repeat' (first | with_reducible exact Below.refl _ _ | with_reducible assumption | with_reducible refine Below.drew ?_ | with_reducible refine Below.drewN ?_ _ | with_reducible refine Below.alloc ?_ ?_ _ | with_reducible refine Below.setCell ?_ ?_ _ | with_reducible refine Below.setRow ?_ ?_ _ | with_reducible refine below_step (by assumption) ?_ ?_ | (show (_ : Nat) ≤ _; first | omega | (simp <;> omega)))) (Nat.le_refl _))).mono ?_; rintro e w1 ⟨rfl, hb1⟩; have r_hb1 := keep_rowA hb1; have f_hb1 := keep_frA hb1; have s_hb1 := hb1.size; (try simp only [World.size_alloc, World.size_setCell, setRow_size, World.size_drew, size_drewNm] at r_hb1 f_hb1 s_hb1))
      refine bodyPost_ret (v := .tuple #[.int .i64 0, .int .i64 0, .int .i64 6]) (res_ttt rfl rfl rfl rfl) rfl ⟨rfl, by repeat' (first | with_reducible exact Below.refl _ _ | with_reducible assumption | with_reducible refine Below.drew ?_ | with_reducible refine Below.drewN ?_ _ | with_reducible refine Below.alloc ?_ ?_ _ | with_reducible refine Below.setCell ?_ ?_ _ | with_reducible refine Below.setRow ?_ ?_ _ | with_reducible refine below_step (by assumption) ?_ ?_ | (show (_ : Nat) ≤ _; first | omega | (simp <;> omega)))⟩
    · rw [wetV_some ho h0]
      have hb0 : ((n : Int) == 0) = false := by simp; omega
      obtain ⟨g, o, cap', hv, hg, hRs, hcells⟩ := HH.out.pos (by omega)
      simp only [Value.slice.injEq] at hv
      obtain ⟨rfl, -, rfl⟩ := hv
      obtain ⟨R, hR⟩ : ∃ R, rowOf w g = R := ⟨_, rfl⟩
      rw [hR] at hRs hcells
      have HKX := Lib.hid (fun k (hk : k < n) => kx_self (R := R) (o := o + k * 266) (c := F k) (by omega) (hcells k hk))
      have HWA := Lib.hid (fun k (hk : k < n) w hr hp => l01Water_at g (o + k * 266) R (F k) (fitSheet (hF k hk)) w hr hp)
      clear hL ho hok hF hcells
      have hk0 := HKX.out 0 (by omega)
      have hw0 := fun w hr hp => HWA.out 0 (by omega) w hr hp
      rw [Nat.zero_mul, Nat.add_zero] at hk0 hw0
      rw [show sumTo (wetF (F 0)) 64 = watS F 0 from rfl] at hw0
      have HK0 := Lib.hid hk0
      have HW0 := Lib.hid hw0
      clear hk0 hw0
      have hm3 : ¬ n ≤ 0 := by omega
      have hn0 : 0 < n := by omega
      go_enter Try.func18, Try.ntmps18
      go_wp2_with (go_at_call 56; refine (HL.out _ (HH.out.below (by repeat' (first | with_reducible exact Below.refl _ _ | with_reducible assumption | with_reducible refine Below.drew ?_ | with_reducible refine Below.drewN ?_ _ | with_reducible refine Below.alloc ?_ ?_ _ | with_reducible refine Below.setCell ?_ ?_ _ | with_reducible refine Below.setRow ?_ ?_ _ | with_reducible refine below_step (by assumption) ?_ ?_ | (show (_ : Nat) ≤ _; first | omega | (simp <;> omega)))) (Nat.le_refl _))).mono ?_; rintro e w1 ⟨rfl, hb1⟩; have r_hb1 := keep_rowA hb1; have f_hb1 := keep_frA hb1; have s_hb1 := hb1.size; (try simp only [World.size_alloc, World.size_setCell, setRow_size, World.size_drew, size_drewNm] at r_hb1 f_hb1 s_hb1))
      go_wp2_with ((go_at_call 57; with_reducible refine (HW0.out _ (by rw [← HK0.out]; (go_simp <;> (intros; omega))) (by first | omega | (simp <;> omega))).mono ?_; rintro e w1 ⟨rfl, hb1⟩; have r1 := keep_rowA hb1; have f1 := keep_frA hb1; have s1 := hb1.size; (try simp only [World.size_alloc, World.size_setCell, setRow_size, World.size_drew, size_drewNm] at r1 f1 s1)))
      go_loopw [7, 5, 6] (fun i bi mi wr => ∃ k : Nat, 1 ≤ k ∧ k ≤ n ∧ i = .int .i64 k ∧ bi = .int .i64 ((bw (watS F) k).1 : Int) ∧ mi = .int .i64 (bw (watS F) k).2 ∧ Below w.heap.size w wr) (fun i bi mi wr => n - (intOf i).toNat)
      case atStart => exact ⟨1, by omega, by omega, rfl, by rw [bw_one]; rfl, by rw [bw_one], by repeat' (first | with_reducible exact Below.refl _ _ | with_reducible assumption | with_reducible refine Below.drew ?_ | with_reducible refine Below.drewN ?_ _ | with_reducible refine Below.alloc ?_ ?_ _ | with_reducible refine Below.setCell ?_ ?_ _ | with_reducible refine Below.setRow ?_ ?_ _ | with_reducible refine below_step (by assumption) ?_ ?_ | (show (_ : Nat) ≤ _; first | omega | (simp <;> omega)))⟩
      case round =>
        obtain ⟨k, hk1, hk2, rfl, rfl, rfl, hb⟩ := hrel
        have hsz := hb.size
        have hr1 := (keep_row hb hg).trans hR
        have hw1 : g < wr.heap.size := Nat.lt_of_lt_of_le hg hb.size
        by_cases hlt : k < n
        · have hWK := fun w hr hp => HWA.out k hlt w hr hp
          rw [show sumTo (wetF (F k)) 64 = watS F k from rfl] at hWK
          have HWK := Lib.hid hWK
          have HK := Lib.hid (HKX.out k hlt)
          have hlb := bw_lt (watS F) k
          have hm1 : ¬ n ≤ k := by omega
          have hm2 : ¬ ((k : Int) < 0) := by omega
          by_cases hgt : (bw (watS F) k).2 < watS F k
          · have HN := Lib.hid (bw_yes hgt)
            clear hWK
            generalize bw (watS F) k = q at *
            obtain ⟨q1, q2⟩ := q
            simp only at hgt hlb ⊢
            have hd : decide (q2 < watS F k) = true := decide_eq_true hgt
            generalize watS F k = wk at *
            go_wp2_with ((go_at_call 57; with_reducible refine (HWK.out _ (by rw [← HK.out]; (go_simp <;> (intros; omega))) (by first | omega | (simp <;> omega))).mono ?_; rintro e w1 ⟨rfl, hb1⟩; have r1 := keep_rowA hb1; have f1 := keep_frA hb1; have s1 := hb1.size; (try simp only [World.size_alloc, World.size_setCell, setRow_size, World.size_drew, size_drewNm] at r1 f1 s1)))
            go_roundw
            case rel => first | exact ⟨k + 1, by omega, by omega, by go_num, by rw [HN.out], by rw [HN.out], by repeat' (first | with_reducible exact Below.refl _ _ | with_reducible assumption | with_reducible refine Below.drew ?_ | with_reducible refine Below.drewN ?_ _ | with_reducible refine Below.alloc ?_ ?_ _ | with_reducible refine Below.setCell ?_ ?_ _ | with_reducible refine Below.setRow ?_ ?_ _ | with_reducible refine below_step (by assumption) ?_ ?_ | (show (_ : Nat) ≤ _; first | omega | (simp <;> omega)))⟩ | ((repeat (with_reducible apply Exists.intro)); refine And.intro ?_ ?_; rotate_left; focus ((repeat' (with_reducible apply And.intro)) <;> rfl); exact ⟨k + 1, by omega, by omega, by go_num, by rw [HN.out], by rw [HN.out], by repeat' (first | with_reducible exact Below.refl _ _ | with_reducible assumption | with_reducible refine Below.drew ?_ | with_reducible refine Below.drewN ?_ _ | with_reducible refine Below.alloc ?_ ?_ _ | with_reducible refine Below.setCell ?_ ?_ _ | with_reducible refine Below.setRow ?_ ?_ _ | with_reducible refine below_step (by assumption) ?_ ?_ | (show (_ : Nat) ≤ _; first | omega | (simp <;> omega)))⟩)
            case measure => simp [intOf] <;> omega
          · have HN := Lib.hid (bw_no hgt)
            clear hWK
            generalize bw (watS F) k = q at *
            obtain ⟨q1, q2⟩ := q
            simp only at hgt hlb ⊢
            have hd : decide (q2 < watS F k) = false := decide_eq_false hgt
            generalize watS F k = wk at *
            go_wp2_with ((go_at_call 57; with_reducible refine (HWK.out _ (by rw [← HK.out]; (go_simp <;> (intros; omega))) (by first | omega | (simp <;> omega))).mono ?_; rintro e w1 ⟨rfl, hb1⟩; have r1 := keep_rowA hb1; have f1 := keep_frA hb1; have s1 := hb1.size; (try simp only [World.size_alloc, World.size_setCell, setRow_size, World.size_drew, size_drewNm] at r1 f1 s1)))
            go_roundw
            case rel => first | exact ⟨k + 1, by omega, by omega, by go_num, by rw [HN.out], by rw [HN.out], by repeat' (first | with_reducible exact Below.refl _ _ | with_reducible assumption | with_reducible refine Below.drew ?_ | with_reducible refine Below.drewN ?_ _ | with_reducible refine Below.alloc ?_ ?_ _ | with_reducible refine Below.setCell ?_ ?_ _ | with_reducible refine Below.setRow ?_ ?_ _ | with_reducible refine below_step (by assumption) ?_ ?_ | (show (_ : Nat) ≤ _; first | omega | (simp <;> omega)))⟩ | ((repeat (with_reducible apply Exists.intro)); refine And.intro ?_ ?_; rotate_left; focus ((repeat' (with_reducible apply And.intro)) <;> rfl); exact ⟨k + 1, by omega, by omega, by go_num, by rw [HN.out], by rw [HN.out], by repeat' (first | with_reducible exact Below.refl _ _ | with_reducible assumption | with_reducible refine Below.drew ?_ | with_reducible refine Below.drewN ?_ _ | with_reducible refine Below.alloc ?_ ?_ _ | with_reducible refine Below.setCell ?_ ?_ _ | with_reducible refine Below.setRow ?_ ?_ _ | with_reducible refine below_step (by assumption) ?_ ?_ | (show (_ : Nat) ≤ _; first | omega | (simp <;> omega)))⟩)
            case measure => simp [intOf] <;> omega
        · have hke : k = n := by omega
          subst hke
          go_wp2
          refine bodyPost_ret (v := .tuple #[.int .i64 ((bw (watS F) k).1 : Int), .int .i64 (bw (watS F) k).2, .int .i64 0]) (res_ttt rfl rfl rfl rfl) rfl ⟨rfl, by repeat' (first | with_reducible exact Below.refl _ _ | with_reducible assumption | with_reducible refine Below.drew ?_ | with_reducible refine Below.drewN ?_ _ | with_reducible refine Below.alloc ?_ ?_ _ | with_reducible refine Below.setCell ?_ ?_ _ | with_reducible refine Below.setRow ?_ ?_ _ | with_reducible refine below_step (by assumption) ?_ ?_ | (show (_ : Nat) ≤ _; first | omega | (simp <;> omega)))⟩
  · rw [wetV_bad ho]
    rw [ho] at hL
    have HL := Lib.hid hL
    clear hL ho hF
    go_enter Try.func18, Try.ntmps18
    go_wp2_with (go_at_call 56; refine (HL.out _ (HH.out.below (by repeat' (first | with_reducible exact Below.refl _ _ | with_reducible assumption | with_reducible refine Below.drew ?_ | with_reducible refine Below.drewN ?_ _ | with_reducible refine Below.alloc ?_ ?_ _ | with_reducible refine Below.setCell ?_ ?_ _ | with_reducible refine Below.setRow ?_ ?_ _ | with_reducible refine below_step (by assumption) ?_ ?_ | (show (_ : Nat) ≤ _; first | omega | (simp <;> omega)))) (Nat.le_refl _))).mono ?_; rintro e w1 ⟨rfl, hb1⟩; have r_hb1 := keep_rowA hb1; have f_hb1 := keep_frA hb1; have s_hb1 := hb1.size; (try simp only [World.size_alloc, World.size_setCell, setRow_size, World.size_drew, size_drewNm] at r_hb1 f_hb1 s_hb1))
    refine bodyPost_ret (v := .tuple #[.int .i64 0, .int .i64 0, .int .i64 1]) (res_ttt rfl rfl rfl rfl) rfl ⟨rfl, by repeat' (first | with_reducible exact Below.refl _ _ | with_reducible assumption | with_reducible refine Below.drew ?_ | with_reducible refine Below.drewN ?_ _ | with_reducible refine Below.alloc ?_ ?_ _ | with_reducible refine Below.setCell ?_ ?_ _ | with_reducible refine Below.setRow ?_ ?_ _ | with_reducible refine below_step (by assumption) ?_ ?_ | (show (_ : Nat) ≤ _; first | omega | (simp <;> omega)))⟩
theorem water_ok (p : Nat) (c : Nat → Int) (hf : FitSheet c) (ho : okS c = true) (w : World) (hr : rowOf w p = kc sk 266 c) (hp : p < w.heap.size) :
    Calls Try.prog 59 #[.pointer (some ⟨p, 0, none⟩)] w fun e w' => e = .returned (.int .i64 (sumTo (wetF c) 64)) ∧ Below w.heap.size w w' := by
  obtain ⟨W, H, hW, hH, W0, H0, W8, H8, hS⟩ := okS_water ho
  rw [← hS]
  exact water_any p c hf W H hW hH W0 H0 W8 H8 w hr hp
theorem water_okAt (p o : Nat) (R : Array Value) (c : Nat → Int) (hf : FitSheet c) (ho : okS c = true) (w : World) (hr : rowOf w p = kx R o c) (hp : p < w.heap.size) :
    Calls Try.prog 59 #[.pointer (some ⟨p, o, none⟩)] w fun e w' => e = .returned (.int .i64 (sumTo (wetF c) 64)) ∧ Below w.heap.size w w' := by
  obtain ⟨W, H, hW, hH, W0, H0, W8, H8, hS⟩ := okS_water ho
  rw [← hS]
  exact water_at p o R c hf W H hW hH W0 H0 W8 H8 w hr hp
set_option maxHeartbeats 4000000 in
theorem iWettest_any (v : Value) (n : Nat) (F : Nat → Nat → Int) (hn : n ≤ 1048576) (hF : ∀ k, k < n → FitRow sk 266 (F k)) (w : World) (h : SlV 266 w v n (shV F)) :
    Calls Try.prog 20 #[v] w fun e w' => e = .returned (wetV n F) ∧ Below w.heap.size w w' := by
  have hL := fun w h => iValidStack_any v n F hn hF w h
  obtain ⟨a, cap, rfl⟩ := h.len
  have HH := Lib.hid h
  clear h
  rcases Bool.eq_false_or_eq_true (stackB n F) with ho | ho
  · have hok := stack_oks ho
    rw [ho] at hL
    have HL := Lib.hid hL
    by_cases h0 : n = 0
    · rw [wetV_none ho h0]
      subst h0
      clear hL ho hok hF
      go_enter Try.func20, Try.ntmps20
      go_wp2_with (go_at_call 58; refine (HL.out _ (HH.out.below (by repeat' (first | with_reducible exact Below.refl _ _ | with_reducible assumption | with_reducible refine Below.drew ?_ | with_reducible refine Below.drewN ?_ _ | with_reducible refine Below.alloc ?_ ?_ _ | with_reducible refine Below.setCell ?_ ?_ _ | with_reducible refine Below.setRow ?_ ?_ _ | with_reducible refine below_step (by assumption) ?_ ?_ | (show (_ : Nat) ≤ _; first | omega | (simp <;> omega)))) (Nat.le_refl _))).mono ?_; rintro e w1 ⟨rfl, hb1⟩; have r_hb1 := keep_rowA hb1; have f_hb1 := keep_frA hb1; have s_hb1 := hb1.size; (try simp only [World.size_alloc, World.size_setCell, setRow_size, World.size_drew, size_drewNm] at r_hb1 f_hb1 s_hb1))
      refine bodyPost_ret (v := .tuple #[.int .i64 0, .int .i64 0, .int .i64 6]) (res_ttt rfl rfl rfl rfl) rfl ⟨rfl, by repeat' (first | with_reducible exact Below.refl _ _ | with_reducible assumption | with_reducible refine Below.drew ?_ | with_reducible refine Below.drewN ?_ _ | with_reducible refine Below.alloc ?_ ?_ _ | with_reducible refine Below.setCell ?_ ?_ _ | with_reducible refine Below.setRow ?_ ?_ _ | with_reducible refine below_step (by assumption) ?_ ?_ | (show (_ : Nat) ≤ _; first | omega | (simp <;> omega)))⟩
    · rw [wetV_some ho h0]
      have hb0 : ((n : Int) == 0) = false := by simp; omega
      obtain ⟨g, o, cap', hv, hg, hRs, hcells⟩ := HH.out.pos (by omega)
      simp only [Value.slice.injEq] at hv
      obtain ⟨rfl, -, rfl⟩ := hv
      obtain ⟨R, hR⟩ : ∃ R, rowOf w g = R := ⟨_, rfl⟩
      rw [hR] at hRs hcells
      have HEX := Lib.hid (fun k (hk : k < n) => ext_sheet (R := R) (o := o + k * 266) (by omega) (hcells k hk))
      have HWA := Lib.hid (fun k (hk : k < n) p w hr hp => water_ok p (F k) (fitSheet (hF k hk)) (hok k hk) w hr hp)
      have hk0 := kx_self (R := R) (o := o + 0 * 266) (c := F 0) (by omega) (hcells 0 (by omega))
      have hw0 := fun w hr hp => water_okAt g (o + 0 * 266) R (F 0) (fitSheet (hF 0 (by omega))) (hok 0 (by omega)) w hr hp
      rw [Nat.zero_mul, Nat.add_zero] at hk0 hw0
      rw [show sumTo (wetF (F 0)) 64 = watS F 0 from rfl] at hw0
      have HK0 := Lib.hid hk0
      have HW0 := Lib.hid hw0
      clear hL ho hok hF hcells hk0 hw0
      have hm3 : ¬ n ≤ 0 := by omega
      have hn0 : 0 < n := by omega
      go_enter Try.func20, Try.ntmps20
      go_wp2_with (go_at_call 58; refine (HL.out _ (HH.out.below (by repeat' (first | with_reducible exact Below.refl _ _ | with_reducible assumption | with_reducible refine Below.drew ?_ | with_reducible refine Below.drewN ?_ _ | with_reducible refine Below.alloc ?_ ?_ _ | with_reducible refine Below.setCell ?_ ?_ _ | with_reducible refine Below.setRow ?_ ?_ _ | with_reducible refine below_step (by assumption) ?_ ?_ | (show (_ : Nat) ≤ _; first | omega | (simp <;> omega)))) (Nat.le_refl _))).mono ?_; rintro e w1 ⟨rfl, hb1⟩; have r_hb1 := keep_rowA hb1; have f_hb1 := keep_frA hb1; have s_hb1 := hb1.size; (try simp only [World.size_alloc, World.size_setCell, setRow_size, World.size_drew, size_drewNm] at r_hb1 f_hb1 s_hb1))
      go_wp2_with ((go_at_call 59; with_reducible refine (HW0.out _ (by rw [← HK0.out]; (go_simp <;> (intros; omega))) (by first | omega | (simp <;> omega))).mono ?_; rintro e w1 ⟨rfl, hb1⟩; have r1 := keep_rowA hb1; have f1 := keep_frA hb1; have s1 := hb1.size; (try simp only [World.size_alloc, World.size_setCell, setRow_size, World.size_drew, size_drewNm] at r1 f1 s1)))
      go_loopw [23, 5, 6] (fun i bi mi wr => ∃ k : Nat, k ≤ n ∧ i = .int .i64 k ∧ bi = .int .i64 ((bw (watS F) k).1 : Int) ∧ mi = .int .i64 (bw (watS F) k).2 ∧ Below w.heap.size w wr) (fun i bi mi wr => n - (intOf i).toNat)
      case atStart => exact ⟨0, by omega, rfl, rfl, rfl, by repeat' (first | with_reducible exact Below.refl _ _ | with_reducible assumption | with_reducible refine Below.drew ?_ | with_reducible refine Below.drewN ?_ _ | with_reducible refine Below.alloc ?_ ?_ _ | with_reducible refine Below.setCell ?_ ?_ _ | with_reducible refine Below.setRow ?_ ?_ _ | with_reducible refine below_step (by assumption) ?_ ?_ | (show (_ : Nat) ≤ _; first | omega | (simp <;> omega)))⟩
      case round =>
        obtain ⟨k, hk2, rfl, rfl, rfl, hb⟩ := hrel
        have hsz := hb.size
        have hr1 := (keep_row hb hg).trans hR
        have hw1 : g < wr.heap.size := Nat.lt_of_lt_of_le hg hb.size
        by_cases hlt : k < n
        · have hWK := fun p w hr hp => HWA.out k hlt p w hr hp
          rw [show sumTo (wetF (F k)) 64 = watS F k from rfl] at hWK
          have HWK := Lib.hid hWK
          have hex := HEX.out k hlt
          have hlb := bw_lt (watS F) k
          have hm1 : ¬ n ≤ k := by omega
          have hm2 : ¬ ((k : Int) < 0) := by omega
          by_cases hgt : (bw (watS F) k).2 < watS F k
          · have HN := Lib.hid (bw_yes hgt)
            clear hWK
            generalize bw (watS F) k = q at *
            obtain ⟨q1, q2⟩ := q
            simp only at hgt hlb ⊢
            have hd : decide (q2 < watS F k) = true := decide_eq_true hgt
            generalize watS F k = wk at *
            generalize F k = c at *
            go_wp2_with ((go_at_call 59; with_reducible refine (HWK.out _ _ (by (go_simp <;> (intros; omega))) (by first | omega | (simp <;> omega))).mono ?_; rintro e w1 ⟨rfl, hb1⟩; have r1 := keep_rowA hb1; have f1 := keep_frA hb1; have s1 := hb1.size; (try simp only [World.size_alloc, World.size_setCell, setRow_size, World.size_drew, size_drewNm] at r1 f1 s1)))
            go_roundw
            case rel => first | exact ⟨k + 1, by omega, by go_num, by rw [HN.out], by rw [HN.out], by repeat' (first | with_reducible exact Below.refl _ _ | with_reducible assumption | with_reducible refine Below.drew ?_ | with_reducible refine Below.drewN ?_ _ | with_reducible refine Below.alloc ?_ ?_ _ | with_reducible refine Below.setCell ?_ ?_ _ | with_reducible refine Below.setRow ?_ ?_ _ | with_reducible refine below_step (by assumption) ?_ ?_ | (show (_ : Nat) ≤ _; first | omega | (simp <;> omega)))⟩ | ((repeat (with_reducible apply Exists.intro)); refine And.intro ?_ ?_; rotate_left; focus ((repeat' (with_reducible apply And.intro)) <;> rfl); exact ⟨k + 1, by omega, by go_num, by rw [HN.out], by rw [HN.out], by repeat' (first | with_reducible exact Below.refl _ _ | with_reducible assumption | with_reducible refine Below.drew ?_ | with_reducible refine Below.drewN ?_ _ | with_reducible refine Below.alloc ?_ ?_ _ | with_reducible refine Below.setCell ?_ ?_ _ | with_reducible refine Below.setRow ?_ ?_ _ | with_reducible refine below_step (by assumption) ?_ ?_ | (show (_ : Nat) ≤ _; first | omega | (simp <;> omega)))⟩)
            case measure => simp [intOf] <;> omega
          · have HN := Lib.hid (bw_no hgt)
            clear hWK
            generalize bw (watS F) k = q at *
            obtain ⟨q1, q2⟩ := q
            simp only at hgt hlb ⊢
            have hd : decide (q2 < watS F k) = false := decide_eq_false hgt
            generalize watS F k = wk at *
            generalize F k = c at *
            go_wp2_with ((go_at_call 59; with_reducible refine (HWK.out _ _ (by (go_simp <;> (intros; omega))) (by first | omega | (simp <;> omega))).mono ?_; rintro e w1 ⟨rfl, hb1⟩; have r1 := keep_rowA hb1; have f1 := keep_frA hb1; have s1 := hb1.size; (try simp only [World.size_alloc, World.size_setCell, setRow_size, World.size_drew, size_drewNm] at r1 f1 s1)))
            go_roundw
            case rel => first | exact ⟨k + 1, by omega, by go_num, by rw [HN.out], by rw [HN.out], by repeat' (first | with_reducible exact Below.refl _ _ | with_reducible assumption | with_reducible refine Below.drew ?_ | with_reducible refine Below.drewN ?_ _ | with_reducible refine Below.alloc ?_ ?_ _ | with_reducible refine Below.setCell ?_ ?_ _ | with_reducible refine Below.setRow ?_ ?_ _ | with_reducible refine below_step (by assumption) ?_ ?_ | (show (_ : Nat) ≤ _; first | omega | (simp <;> omega)))⟩ | ((repeat (with_reducible apply Exists.intro)); refine And.intro ?_ ?_; rotate_left; focus ((repeat' (with_reducible apply And.intro)) <;> rfl); exact ⟨k + 1, by omega, by go_num, by rw [HN.out], by rw [HN.out], by repeat' (first | with_reducible exact Below.refl _ _ | with_reducible assumption | with_reducible refine Below.drew ?_ | with_reducible refine Below.drewN ?_ _ | with_reducible refine Below.alloc ?_ ?_ _ | with_reducible refine Below.setCell ?_ ?_ _ | with_reducible refine Below.setRow ?_ ?_ _ | with_reducible refine below_step (by assumption) ?_ ?_ | (show (_ : Nat) ≤ _; first | omega | (simp <;> omega)))⟩)
            case measure => simp [intOf] <;> omega
        · have hke : k = n := by omega
          subst hke
          go_wp2
          refine bodyPost_ret (v := .tuple #[.int .i64 ((bw (watS F) k).1 : Int), .int .i64 (bw (watS F) k).2, .int .i64 0]) (res_ttt rfl rfl rfl rfl) rfl ⟨rfl, by repeat' (first | with_reducible exact Below.refl _ _ | with_reducible assumption | with_reducible refine Below.drew ?_ | with_reducible refine Below.drewN ?_ _ | with_reducible refine Below.alloc ?_ ?_ _ | with_reducible refine Below.setCell ?_ ?_ _ | with_reducible refine Below.setRow ?_ ?_ _ | with_reducible refine below_step (by assumption) ?_ ?_ | (show (_ : Nat) ≤ _; first | omega | (simp <;> omega)))⟩
  · rw [wetV_bad ho]
    rw [ho] at hL
    have HL := Lib.hid hL
    clear hL ho hF
    go_enter Try.func20, Try.ntmps20
    go_wp2_with (go_at_call 58; refine (HL.out _ (HH.out.below (by repeat' (first | with_reducible exact Below.refl _ _ | with_reducible assumption | with_reducible refine Below.drew ?_ | with_reducible refine Below.drewN ?_ _ | with_reducible refine Below.alloc ?_ ?_ _ | with_reducible refine Below.setCell ?_ ?_ _ | with_reducible refine Below.setRow ?_ ?_ _ | with_reducible refine below_step (by assumption) ?_ ?_ | (show (_ : Nat) ≤ _; first | omega | (simp <;> omega)))) (Nat.le_refl _))).mono ?_; rintro e w1 ⟨rfl, hb1⟩; have r_hb1 := keep_rowA hb1; have f_hb1 := keep_frA hb1; have s_hb1 := hb1.size; (try simp only [World.size_alloc, World.size_setCell, setRow_size, World.size_drew, size_drewNm] at r_hb1 f_hb1 s_hb1))
    refine bodyPost_ret (v := .tuple #[.int .i64 0, .int .i64 0, .int .i64 1]) (res_ttt rfl rfl rfl rfl) rfl ⟨rfl, by repeat' (first | with_reducible exact Below.refl _ _ | with_reducible assumption | with_reducible refine Below.drew ?_ | with_reducible refine Below.drewN ?_ _ | with_reducible refine Below.alloc ?_ ?_ _ | with_reducible refine Below.setCell ?_ ?_ _ | with_reducible refine Below.setRow ?_ ?_ _ | with_reducible refine below_step (by assumption) ?_ ?_ | (show (_ : Nat) ≤ _; first | omega | (simp <;> omega)))⟩
end Go.Proofs.Ytfcffihenmjafaa
