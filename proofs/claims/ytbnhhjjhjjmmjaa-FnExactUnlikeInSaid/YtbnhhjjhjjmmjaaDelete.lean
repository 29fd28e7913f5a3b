/- Spots that something does not hold for are deleted from a list, in place. -/
import Derived.Test.YtbnhhjjhjjmmjaaThat
import Derived.Test.YtbnhhjjhjjmmjaaSlV
namespace Go.Proofs.Ytbnhhjjhjjmmjaa
open Go.RowKit
set_option linter.unusedVariables false
set_option linter.unusedSimpArgs false
set_option maxRecDepth 100000
theorem spot_zero : ∃ z, (∀ w, (zeroValue 81).run Try.prog w = .ok z w) ∧ z.cells.size = 2 ∧ ∀ (n : Nat), ∀ u ∈ (Builtin.zeroCells z.cells n).toList, u.oneCell' = true := by
  have h : (match Try.prog.info? 81 with | some i => (match i.zero with | some z => z.cells.size == 2 && z.cells.all (·.oneCell') | none => false) | none => false) = true := by kernel_rfl
  split at h
  · rename_i i hi
    split at h
    · rename_i z hz
      simp only [Bool.and_eq_true, beq_iff_eq] at h
      refine ⟨z, fun w => by simp [zeroValue, typeInfo, hi, hz], h.1, fun n u hu => ?_⟩
      simp only [Builtin.zeroCells, Array.toList_map, List.mem_map] at hu
      obtain ⟨i, -, rfl⟩ := hu
      have hlt : i % z.cells.size < z.cells.size := Nat.mod_lt _ (by omega)
      rw [getElem!_pos z.cells _ hlt]
      exact (Array.all_eq_true.1 h.2) _ hlt
    · cases h
  · cases h
theorem spots_pre (W n m t : Nat) (hm : m ≤ n) (ht : t < m * 2) : (spots W n)[t]? = (spots W m)[t]? := by
  obtain ⟨k, hk⟩ : ∃ k, k = t / 2 := ⟨_, rfl⟩
  have h1 := spots_drop W n k (by omega)
  have h2 := spots_drop W m k (by omega)
  rcases (show t = k * 2 ∨ t = k * 2 + 1 by omega) with rfl | rfl
  · rw [h1.1, h2.1]
  · rw [h1.2, h2.2]
theorem first_ex (U : Nat → Bool) : ∀ n, (∀ i, i < n → U i = true) ∨ ∃ i, i < n ∧ U i = false ∧ ∀ j, j < i → U j = true
  | 0 => .inl (fun i h => absurd h (by omega))
  | n + 1 => by
    rcases first_ex U n with h | ⟨i, h1, h2, h3⟩
    · rcases Bool.eq_false_or_eq_true (U n) with e | e
      · exact .inl (fun i hi => by rcases Nat.lt_succ_iff_lt_or_eq.1 hi with h1 | rfl; exact h i h1; exact e)
      · exact .inr ⟨n, by omega, e, h⟩
    · exact .inr ⟨i, by omega, h2, h3⟩
set_option maxHeartbeats 4000000 in
theorem delete_any (U : Nat → Bool) (W n g q cap : Nat) (hn : n ≤ 64) (hcap : n ≤ cap) (hcap2 : cap ≤ 9223372036854775807) (w : World) (hcl : ClT U W n g q w) (hg : g < w.heap.size) (hfr : frOf w g = (0, 0)) (hsz : n * 2 ≤ (rowOf w g).size) (hc : ∀ (j : Nat) (u : Value), (spots W n)[j]? = some u → (rowOf w g)[j]? = some u) :
    Calls Try.prog 81 #[.slice (some ⟨g, 0, none⟩) n cap, .func (.func 83) #[] #[.pointer (some ⟨q, 0, none⟩)]] w fun e w' => ∃ v, e = .returned v ∧ OwnK .i8 2 w' g v (selN U n) (selE U W n) ∧ Below g w w' := by
  have hF := firstNo_any U W n g q cap hn w hcl hg hc
  rcases first_ex U n with hall | ⟨i0, hi0, hu0, hall⟩
  · have HF := Lib.hid (show Calls Try.prog 113 #[.slice (some ⟨g, 0, none⟩) n cap, .func (.func 83) #[] #[.pointer (some ⟨q, 0, none⟩)]] w (fun e w' => e = .returned (.int .i64 (-1)) ∧ Below w.heap.size w w') from hF.mono (by
      rintro e w' ⟨k, rfl, hk, hb⟩
      rcases hk with ⟨rfl, -⟩ | ⟨i, -, h1, h2, -⟩
      · exact ⟨rfl, hb⟩
      · rw [hall i h1] at h2; cases h2))
    obtain ⟨hL, hN⟩ := sel_all (U := U) W n hall
    have HO := Lib.hid (show ∀ w', Below w.heap.size w w' → OwnK .i8 2 w' g (.slice (some ⟨g, 0, none⟩) n cap) n (selE U W n) from fun w' hb => .inr ⟨g, cap, rfl, Nat.le_refl _, Nat.lt_of_lt_of_le hg hb.size, (keep_fr hb hg).trans hfr, by rw [keep_row hb hg]; exact hsz, fun j hj => by
      have := selE_at U W n j (by rw [hN]; exact hj)
      rw [hL] at this
      rw [keep_row hb hg]
      exact hc _ _ this⟩)
    rw [hN]
    clear hF hcl hc hall hL hN
    go_enter Try.func81, Try.ntmps81
    go_wp2_with (go_at_call 113; refine HF.out.mono ?_; rintro e w1 ⟨rfl, hb1⟩; have r_hb1 := keep_rowA hb1; have f_hb1 := keep_frA hb1; have s_hb1 := hb1.size; (try simp only [World.size_alloc, World.size_setCell, setRow_size, World.size_drew, size_drewNm] at r_hb1 f_hb1 s_hb1))
    go_ret
    exact ⟨_, rfl, HO.out _ (by repeat' (first | with_reducible exact Below.refl _ _ | with_reducible assumption | with_reducible refine Below.drew ?_ | with_reducible refine Below.drewN ?_ _ | with_reducible refine Below.alloc ?_ ?_ _ | with_reducible refine Below.setCell ?_ ?_ _ | with_reducible refine Below.setRow ?_ ?_ _ | with_reducible refine below_step (by assumption) ?_ ?_ | (show (_ : Nat) ≤ _; first | omega | (simp <;> omega)))), below_le (by repeat' (first | with_reducible exact Below.refl _ _ | with_reducible assumption | with_reducible refine Below.drew ?_ | with_reducible refine Below.drewN ?_ _ | with_reducible refine Below.alloc ?_ ?_ _ | with_reducible refine Below.setCell ?_ ?_ _ | with_reducible refine Below.setRow ?_ ?_ _ | with_reducible refine below_step (by assumption) ?_ ?_ | (show (_ : Nat) ≤ _; first | omega | (simp <;> omega)))) (Nat.le_of_lt hg)⟩
  · have HF := Lib.hid (show Calls Try.prog 113 #[.slice (some ⟨g, 0, none⟩) n cap, .func (.func 83) #[] #[.pointer (some ⟨q, 0, none⟩)]] w (fun e w' => e = .returned (.int .i64 i0) ∧ Below w.heap.size w w') from hF.mono (by
      rintro e w' ⟨k, rfl, hk, hb⟩
      rcases hk with ⟨-, h⟩ | ⟨i, rfl, h1, h2, h3⟩
      · rw [h i0 hi0] at hu0; cases hu0
      · rcases Nat.lt_trichotomy i i0 with h | h | h
        · rw [hall i h] at h2; cases h2
        · subst h; exact ⟨rfl, hb⟩
        · rw [h3 i0 h] at hu0; cases hu0))
    have HC := Lib.hid hc
    have HCL := Lib.hid hcl
    have HE := Lib.hid (fun j hj => selE_at U W n j hj)
    have HLT := Lib.hid (fun j hj => sel_lt hu0 j hj)
    obtain ⟨hL, hN⟩ := sel_all (U := U) W i0 hall
    have HS0 := Lib.hid (And.intro ((sel_no (W := W) hu0).1.trans hL) ((sel_no (W := W) hu0).2.trans hN))
    obtain ⟨z, hz1, hz2, hz3⟩ := spot_zero
    have HZ := Lib.hid (And.intro hz1 (And.intro hz2 hz3))
    have hb1 : ((i0 : Int) == -1) = false := by simp
    have HP := Lib.hid (show ∀ t, t < selN U (i0 + 1) * 2 → (rowOf w g)[t]? = (selL U W (i0 + 1))[t]? from fun t ht => by
      rw [HS0.out.2] at ht
      have hl : t < (spots W n).length := by rw [spots_len]; omega
      rw [HS0.out.1, ← spots_pre W n i0 t (by omega) ht, HC.out t _ (List.getElem?_eq_getElem hl), List.getElem?_eq_getElem hl])
    clear hF hcl hc hall hL hN hz1 hz2 hz3 hu0
    go_enter Try.func81, Try.ntmps81
    go_wp2_with (go_at_call 113; refine HF.out.mono ?_; rintro e w1 ⟨rfl, hb1⟩; have r_hb1 := keep_rowA hb1; have f_hb1 := keep_frA hb1; have s_hb1 := hb1.size; (try simp only [World.size_alloc, World.size_setCell, setRow_size, World.size_drew, size_drewNm] at r_hb1 f_hb1 s_hb1))
    go_loopw [6, 5] (fun jv iv wr => ∃ (j : Nat) (d : Array Value), i0 < j ∧ j ≤ n ∧ jv = .int .i64 j ∧ iv = .int .i64 (selN U j : Nat) ∧ Below g w wr ∧ frOf wr g = (0, 0) ∧ rowOf wr g = d ∧ n * 2 ≤ d.size ∧ (∀ t, t < selN U j * 2 → d[t]? = (selL U W j)[t]?) ∧ (∀ (t : Nat) (u : Value), j * 2 ≤ t → (spots W n)[t]? = some u → d[t]? = some u) ∧ ∀ b, b ≠ g → b < w.heap.size → rowOf wr b = rowOf w b) (fun jv iv wr => n + 1 - (intOf jv).toNat)
    case atStart => exact ⟨i0 + 1, rowOf w g, by omega, by omega, by go_num, by rw [HS0.out.2], below_le (by repeat' (first | with_reducible exact Below.refl _ _ | with_reducible assumption | with_reducible refine Below.drew ?_ | with_reducible refine Below.drewN ?_ _ | with_reducible refine Below.alloc ?_ ?_ _ | with_reducible refine Below.setCell ?_ ?_ _ | with_reducible refine Below.setRow ?_ ?_ _ | with_reducible refine below_step (by assumption) ?_ ?_ | (show (_ : Nat) ≤ _; first | omega | (simp <;> omega)))) (by omega), by (go_simp <;> (intros; omega)), by (go_simp <;> (intros; omega)), hsz, HP.out, fun t u _ hu => HC.out t u hu, fun b _ hb => keep_row hb1 hb⟩
    case round =>
      obtain ⟨j, d, hj0, hjn, rfl, rfl, hb, hfr2, hrd, hds, hd1, hd2, hk⟩ := hrel
      have hszw := hb.size
      have hgw : g < wr.heap.size := Nat.lt_of_lt_of_le hg hszw
      have hlt2 := HLT.out j hj0
      have HD1 := Lib.hid hd1
      have HKP := Lib.hid hk
      by_cases hlt : j < n
      · obtain ⟨p1, p2⟩ := spots_drop W n j hlt
        have r1 := hd2 _ _ (by omega) p1
        have r2 := hd2 _ _ (by omega) p2
        have HD2 := Lib.hid hd2
        have hOS := fun w2 hk => HCL.out j hlt w2 hk
        have hm1 : ¬ n ≤ j := by omega
        have hm2 : ¬ ((j : Int) < 0) := by omega
        clear p1 p2 hd1 hd2 hk
        rcases Bool.eq_false_or_eq_true (U j) with hs | hs
        · rw [hs] at hOS
          have HOS := Lib.hid hOS
          have HN := Lib.hid (And.intro (sel_yes (W := W) hs) (del_put (W := W) hs (by omega) HD1.out))
          clear hOS hs
          generalize j % W = x at *
          generalize j / W = y at *
          generalize selN U j = m at *
          obtain ⟨u0, hdk⟩ : ∃ u0, d[m * 2]? = some u0 := ⟨_, Array.getElem?_eq_getElem (by omega)⟩
          obtain ⟨u1, hdk1⟩ : ∃ u1, d[m * 2 + 1]? = some u1 := ⟨_, Array.getElem?_eq_getElem (by omega)⟩
          have hm3 : ¬ n ≤ m := by omega
          have hm4 : ¬ ((m : Int) < 0) := by omega
          go_wp2_with ((go_at_call 83; refine (HOS.out _ (keeps_after ⟨hszw, HKP.out⟩ (by repeat' (first | with_reducible exact Below.refl _ _ | with_reducible assumption | with_reducible refine Below.drew ?_ | with_reducible refine Below.drewN ?_ _ | with_reducible refine Below.alloc ?_ ?_ _ | with_reducible refine Below.setCell ?_ ?_ _ | with_reducible refine Below.setRow ?_ ?_ _ | with_reducible refine below_step (by assumption) ?_ ?_ | (show (_ : Nat) ≤ _; first | omega | (simp <;> omega)))))).mono ?_; rintro e w1 ⟨rfl, hb1⟩; have r1 := keep_rowA hb1; have f1 := keep_frA hb1; have s1 := hb1.size; (try simp only [World.size_alloc, World.size_setCell, setRow_size, World.size_drew, size_drewNm] at r1 f1 s1)))
          go_roundw
          case rel => first | exact ⟨j + 1, (d.setIfInBounds (m * 2) (.int .i8 x)).setIfInBounds (m * 2 + 1) (.int .i8 y), by omega, by omega, by go_num, by rw [HN.out.1.2]; go_num, by repeat' (first | with_reducible exact Below.refl _ _ | with_reducible assumption | with_reducible refine Below.drew ?_ | with_reducible refine Below.drewN ?_ _ | with_reducible refine Below.alloc ?_ ?_ _ | with_reducible refine Below.setCell ?_ ?_ _ | with_reducible refine Below.setRow ?_ ?_ _ | with_reducible refine below_step (by assumption) ?_ ?_ | (show (_ : Nat) ≤ _; first | omega | (simp <;> omega))), by (go_simp <;> (intros; omega)), by (go_simp <;> (intros; omega)), by simpa using hds, HN.out.2, fun t u h1 h2 => by rw [Array.getElem?_setIfInBounds, Array.getElem?_setIfInBounds, if_neg (by omega), if_neg (by omega)]; exact HD2.out t u (by omega) h2, fun b h1 h2 => by have hkb := HKP.out b h1 h2; (go_simp <;> (intros; omega))⟩ | ((repeat (with_reducible apply Exists.intro)); refine And.intro ?_ ?_; rotate_left; focus ((repeat' (with_reducible apply And.intro)) <;> rfl); exact ⟨j + 1, (d.setIfInBounds (m * 2) (.int .i8 x)).setIfInBounds (m * 2 + 1) (.int .i8 y), by omega, by omega, by go_num, by rw [HN.out.1.2]; go_num, by repeat' (first | with_reducible exact Below.refl _ _ | with_reducible assumption | with_reducible refine Below.drew ?_ | with_reducible refine Below.drewN ?_ _ | with_reducible refine Below.alloc ?_ ?_ _ | with_reducible refine Below.setCell ?_ ?_ _ | with_reducible refine Below.setRow ?_ ?_ _ | with_reducible refine below_step (by assumption) ?_ ?_ | (show (_ : Nat) ≤ _; first | omega | (simp <;> omega))), by (go_simp <;> (intros; omega)), by (go_simp <;> (intros; omega)), by simpa using hds, HN.out.2, fun t u h1 h2 => by rw [Array.getElem?_setIfInBounds, Array.getElem?_setIfInBounds, if_neg (by omega), if_neg (by omega)]; exact HD2.out t u (by omega) h2, fun b h1 h2 => by have hkb := HKP.out b h1 h2; (go_simp <;> (intros; omega))⟩)
          case measure => simp [intOf] <;> omega
        · rw [hs] at hOS
          have HOS := Lib.hid hOS
          have HN := Lib.hid (sel_no (U := U) (W := W) hs)
          clear hOS hs
          generalize j % W = x at *
          generalize j / W = y at *
          go_wp2_with ((go_at_call 83; refine (HOS.out _ (keeps_after ⟨hszw, HKP.out⟩ (by repeat' (first | with_reducible exact Below.refl _ _ | with_reducible assumption | with_reducible refine Below.drew ?_ | with_reducible refine Below.drewN ?_ _ | with_reducible refine Below.alloc ?_ ?_ _ | with_reducible refine Below.setCell ?_ ?_ _ | with_reducible refine Below.setRow ?_ ?_ _ | with_reducible refine below_step (by assumption) ?_ ?_ | (show (_ : Nat) ≤ _; first | omega | (simp <;> omega)))))).mono ?_; rintro e w1 ⟨rfl, hb1⟩; have r1 := keep_rowA hb1; have f1 := keep_frA hb1; have s1 := hb1.size; (try simp only [World.size_alloc, World.size_setCell, setRow_size, World.size_drew, size_drewNm] at r1 f1 s1)))
          go_roundw
          case rel => first | exact ⟨j + 1, d, by omega, by omega, by go_num, by rw [HN.out.2], by repeat' (first | with_reducible exact Below.refl _ _ | with_reducible assumption | with_reducible refine Below.drew ?_ | with_reducible refine Below.drewN ?_ _ | with_reducible refine Below.alloc ?_ ?_ _ | with_reducible refine Below.setCell ?_ ?_ _ | with_reducible refine Below.setRow ?_ ?_ _ | with_reducible refine below_step (by assumption) ?_ ?_ | (show (_ : Nat) ≤ _; first | omega | (simp <;> omega))), by (go_simp <;> (intros; omega)), by (go_simp <;> (intros; omega)), hds, by rw [HN.out.1, HN.out.2]; exact HD1.out, fun t u h1 h2 => HD2.out t u (by omega) h2, fun b h1 h2 => by have hkb := HKP.out b h1 h2; (go_simp <;> (intros; omega))⟩ | ((repeat (with_reducible apply Exists.intro)); refine And.intro ?_ ?_; rotate_left; focus ((repeat' (with_reducible apply And.intro)) <;> rfl); exact ⟨j + 1, d, by omega, by omega, by go_num, by rw [HN.out.2], by repeat' (first | with_reducible exact Below.refl _ _ | with_reducible assumption | with_reducible refine Below.drew ?_ | with_reducible refine Below.drewN ?_ _ | with_reducible refine Below.alloc ?_ ?_ _ | with_reducible refine Below.setCell ?_ ?_ _ | with_reducible refine Below.setRow ?_ ?_ _ | with_reducible refine below_step (by assumption) ?_ ?_ | (show (_ : Nat) ≤ _; first | omega | (simp <;> omega))), by (go_simp <;> (intros; omega)), by (go_simp <;> (intros; omega)), hds, by rw [HN.out.1, HN.out.2]; exact HD1.out, fun t u h1 h2 => HD2.out t u (by omega) h2, fun b h1 h2 => by have hkb := HKP.out b h1 h2; (go_simp <;> (intros; omega))⟩)
          case measure => simp [intOf] <;> omega
      · have hje : j = n := by omega
        subst hje
        have hcl2 : ∀ ty, (Builtin.clear_ #[27] ty #[.slice (some ⟨g, selN U j * 2, none⟩) (j - selN U j) (cap - selN U j)]).run Try.prog wr = .ok (.tuple #[]) (wr.setRow g (splice (rowOf wr g) (selN U j * 2) (Builtin.zeroCells z.cells (j - selN U j)))) :=
          fun ty => run_clear_wide wr _ _ ty z 2 Try.underlying27 HZ.out.1 HZ.out.2.1 HZ.out.2.2 g _ _ _ (by omega) (by rw [hrd]; omega) hfr2
        have hm3 : ¬ j < selN U j := by omega
        have hm4 : ¬ cap < selN U j := by omega
        have hzs : (Builtin.zeroCells z.cells (j - selN U j)).size = (j - selN U j) * 2 := by rw [size_zeroCells, HZ.out.2.1]
        rw [hrd] at hcl2
        generalize Builtin.zeroCells z.cells (j - selN U j) = zc at hcl2 hzs
        clear hd1 hd2 hk
        go_wp2
        go_ret
        refine ⟨_, rfl, .inr ⟨g, cap, rfl, Nat.le_refl _, by simpa using hgw, by rw [fr_setRow]; exact hfr2, ?_, fun t ht => ?_⟩, by repeat' (first | with_reducible exact Below.refl _ _ | with_reducible assumption | with_reducible refine Below.drew ?_ | with_reducible refine Below.drewN ?_ _ | with_reducible refine Below.alloc ?_ ?_ _ | with_reducible refine Below.setCell ?_ ?_ _ | with_reducible refine Below.setRow ?_ ?_ _ | with_reducible refine below_step (by assumption) ?_ ?_ | (show (_ : Nat) ≤ _; first | omega | (simp <;> omega)))⟩
        · rw [row_setRow _ _ _ _ (by rw [hrd]; omega), if_pos rfl, splice_size]; omega
        · rw [row_setRow _ _ _ _ (by rw [hrd]; omega), if_pos rfl, splice_get _ _ _ _ (by rw [hzs]; omega), if_neg (by omega), HD1.out t ht]
          exact HE.out t ht
end Go.Proofs.Ytbnhhjjhjjmmjaa
