/- A mark read from a text: the reference. Written by gen_mreads.py. -/
import Derived.Test.YtbnhhjjhjjmmjaaDoorMReadI
import Derived.Test.YtbnhhjjhjjmmjaaDoorMarkS
namespace Go.Proofs.YtbnhhjjhjjmmjaaDoor
open Go.RowKit Go.Sort
set_option linter.unusedVariables false
set_option linter.unusedSimpArgs false
set_option maxRecDepth 100000
theorem scs_app : ∀ (a b : List (List UInt8)), scs (a ++ b) = match scs a with | none => none | some la => match scs b with | none => none | some lb => some (la ++ lb)
  | [], b => by show scs b = match scs b with | none => none | some lb => some ([] ++ lb); cases scs b <;> rfl
  | w :: r, b => by
    rw [List.cons_append, scs, scs, scs_app r b]
    cases scw w with
    | none => rfl
    | some x => cases scs r with
      | none => rfl
      | some l => cases scs b <;> rfl
theorem scs_next {W : List (List UInt8)} {k : Nat} {x : List UInt8} {L : List (Int × Int)} {y : Int × Int} (h : scs (W.take k) = some L) (hx : W[k]? = some x) (hy : scw x = some y) : scs (W.take (k + 1)) = some (L ++ [y]) := by
  rw [List.take_add_one, hx, scs_app, h]
  show (match scs [x] with | none => none | some lb => some (L ++ lb)) = _
  simp only [scs, hy]
theorem scs_stop {W : List (List UInt8)} {k : Nat} {x : List UInt8} {L : List (Int × Int)} (h : scs (W.take k) = some L) (hx : W[k]? = some x) (hy : scw x = none) : scs W = none := by
  obtain ⟨hk, he⟩ := List.getElem?_eq_some_iff.1 hx
  have e : W = W.take k ++ x :: W.drop (k + 1) := by rw [← he, List.getElem_cons_drop, List.take_append_drop]
  rw [e, scs_app, h]
  show (match scs (x :: W.drop (k + 1)) with | none => none | some lb => some (L ++ lb)) = _
  simp only [scs, hy]
theorem scs_len {W : List (List UInt8)} {L : List (Int × Int)} (h : scs W = some L) : L.length = W.length := by
  have := congrArg List.length (scs_some h).1
  rw [List.length_map] at this; exact this.symm
theorem scw_len {x : List UInt8} (e : (sp 44 x).length ≠ 2) : scw x = none := by
  unfold scw
  split
  · rename_i e2; rw [e2] at e; exact absurd rfl e
  · rfl
theorem scw_none1 {x u v : List UInt8} (e : sp 44 x = [u, v]) (hu : numB u = none) : scw x = none := by unfold scw; rw [e]; simp only [hu]
theorem scw_none2 {x u v : List UInt8} (e : sp 44 x = [u, v]) (hv : numB v = none) : scw x = none := by unfold scw; rw [e]; simp only [hv]; cases numB u <;> rfl
theorem scw_num {x u v : List UInt8} {a b : Nat} (e : sp 44 x = [u, v]) (hu : numB u = some a) (hv : numB v = some b) : scw x = if a < 8 ∧ b < 8 then some ((a : Int), (b : Int)) else none := by unfold scw; rw [e]; simp only [hu, hv]
theorem sMark_len {l c : List UInt8} {r : List (List UInt8)} (e : sp 32 l = c :: r) (h : r.length < 1 ∨ 64 < r.length) : sMark l = none := by unfold sMark; rw [e]; exact if_pos h
theorem sMark_is {l c : List UInt8} {r : List (List UInt8)} (e : sp 32 l = c :: r) (h : ¬ (r.length < 1 ∨ 64 < r.length)) : sMark l = match scs r with | none => none | some L => if colS c = -1 then none else some (colS c, L) := by unfold sMark; rw [e]; exact if_neg h
/-- The colour found when j letters have been looked at. -/
def cj (c : List UInt8) (j : Nat) : Int := if 0 < j ∧ c = [97] then 0 else if 1 < j ∧ c = [98] then 1 else if 2 < j ∧ c = [99] then 2 else -1
theorem cj_3 (c : List UInt8) : cj c 3 = colS c := by unfold cj colS; simp
theorem cj_hit {c : List UInt8} {j : Nat} (hj : j < 3) (h : c = [by8 (97 + (j : Int))]) : cj c (j + 1) = j := by
  rcases (by omega : j = 0 ∨ j = 1 ∨ j = 2) with rfl | rfl | rfl <;> subst h <;> decide
theorem cj_miss {c : List UInt8} {j : Nat} (hj : j < 3) (h : c ≠ [by8 (97 + (j : Int))]) : cj c (j + 1) = cj c j := by
  rcases (by omega : j = 0 ∨ j = 1 ∨ j = 2) with rfl | rfl | rfl
  · have h : c ≠ [97] := h
    unfold cj; simp [h]
  · have h : c ≠ [98] := h
    unfold cj; simp [h]
  · have h : c ≠ [99] := h
    unfold cj; simp [h]
theorem cj_in (c : List UInt8) (j : Nat) : -1 ≤ cj c j ∧ cj c j ≤ 2 := by unfold cj; (repeat' split) <;> omega
theorem seg_abc {j : Nat} (hj : j < 3) : seg [97, 98, 99] j (j + 1) = [by8 (97 + (j : Int))] := by
  rcases (by omega : j = 0 ∨ j = 1 ∨ j = 2) with rfl | rfl | rfl <;> decide
set_option maxHeartbeats 32000000 in
theorem sReadMark_any (l : List UInt8) (hl : l.length ≤ 1048576) (w : World) :
    Calls Tryd.prog 34 #[.string (tx l)] w fun e w' => ∃ v, e = .returned (.tuple #[.agg #[.int .i8 (rmC l), v], .int .i64 (rmE l)]) ∧ OwnK .i8 2 w' w.heap.size v (rmL l).length (gOf (rmL l)) ∧ Below w.heap.size w w' := by
  obtain ⟨i0, z0, hi0, hz0, hs0, hb0, hc0⟩ := spot_info
  have HI := Lib.hid (And.intro hi0 (And.intro hz0 (And.intro hs0 (And.intro hb0 hc0))))
  clear hi0 hz0 hs0 hb0 hc0
  have HS := Lib.hid (fun w => l01Split_any 32 l hl w)
  have HM := Lib.hid (fun x (h : x ∈ sp 32 l) => seg_le h)
  have hWl := sp_len 32 l
  obtain ⟨c, r, hW⟩ : ∃ c r, sp 32 l = c :: r := by
    cases h : sp 32 l with
    | nil => exact absurd h (sp_ne 32 l)
    | cons c r => exact ⟨c, r, rfl⟩
  have HWW := Lib.hid hW
  rw [hW] at HS hWl HM
  have hnl : (c :: r).length = r.length + 1 := rfl
  rw [hnl] at HS hWl
  clear hW
  have HIN0 := fun w => l00In_any ((r.length + 1 : Nat) : Int) 2 65 w
  by_cases hn : r.length < 1 ∨ 64 < r.length
  · have HRD := Lib.hid (rm_none (sMark_len HWW.out hn))
    rw [show inB ((r.length + 1 : Nat) : Int) 2 65 = false from decide_eq_false (by omega)] at HIN0
    have HIN := Lib.hid HIN0
    clear HIN0
    go_enter Tryd.func34, Tryd.ntmps34
    go_wp2_with (go_at_call 75; refine (HS.out _).mono ?_; rintro e w1 ⟨vW, rfl, hown, hb1⟩; have r_hb1 := keep_rowA hb1; have f_hb1 := keep_frA hb1; have s_hb1 := hb1.size; (try simp only [World.size_alloc, World.size_setCell, setRow_size, World.size_drew, size_drewNm] at r_hb1 f_hb1 s_hb1); obtain ⟨g, cap, rfl, hg1, hg2, hgr⟩ := own_strs hown (Nat.succ_pos _); have hr0 := hgr 0 _ (Nat.succ_pos _) rfl; have HGR := Lib.hid hgr; obtain ⟨R, hR⟩ : ∃ R, rowOf w1 g = R := ⟨_, rfl⟩; rw [hR] at hr0 HGR; have hRX : rowOfX w1 g = R := hR; clear hown hgr)
    go_wp2_with (go_at_call 81; refine (HIN.out _).mono ?_; rintro e w2 ⟨rfl, rfl⟩)
    refine bodyPost_ret (v := (.tuple #[.agg #[.int .i8 0, .slice none 0 0], .int .i64 5])) (res_ct rfl rfl (by (go_simp <;> (intros; omega))) rfl) rfl ⟨_, by rw [HRD.out.1, HRD.out.2.2], by rw [HRD.out.2.1]; exact own_nil, by repeat' (first | with_reducible exact Below.refl _ _ | with_reducible assumption | with_reducible refine Below.drew ?_ | with_reducible refine Below.drewN ?_ _ | with_reducible refine Below.alloc ?_ ?_ _ | with_reducible refine Below.setCell ?_ ?_ _ | with_reducible refine Below.setRow ?_ ?_ _ | with_reducible refine below_step (by assumption) ?_ ?_ | (show (_ : Nat) ≤ _; first | omega | (simp <;> omega)))⟩
  rw [show inB ((r.length + 1 : Nat) : Int) 2 65 = true from inB_true.2 (by omega)] at HIN0
  have HIN := Lib.hid HIN0
  have HIS := Lib.hid (sMark_is HWW.out hn)
  clear HIN0
  go_enter Tryd.func34, Tryd.ntmps34
  go_wp2_with (go_at_call 75; refine (HS.out _).mono ?_; rintro e w1 ⟨vW, rfl, hown, hb1⟩; have r_hb1 := keep_rowA hb1; have f_hb1 := keep_frA hb1; have s_hb1 := hb1.size; (try simp only [World.size_alloc, World.size_setCell, setRow_size, World.size_drew, size_drewNm] at r_hb1 f_hb1 s_hb1); obtain ⟨g, cap, rfl, hg1, hg2, hgr⟩ := own_strs hown (Nat.succ_pos _); have hr0 := hgr 0 _ (Nat.succ_pos _) rfl; have HGR := Lib.hid hgr; obtain ⟨R, hR⟩ : ∃ R, rowOf w1 g = R := ⟨_, rfl⟩; rw [hR] at hr0 HGR; have hRX : rowOfX w1 g = R := hR; clear hown hgr)
  go_wp2_with (go_at_call 81; refine (HIN.out _).mono ?_; rintro e w2 ⟨rfl, rfl⟩)
  have hb1w : Below w.heap.size w w1 := by repeat' (first | with_reducible exact Below.refl _ _ | with_reducible assumption | with_reducible refine Below.drew ?_ | with_reducible refine Below.drewN ?_ _ | with_reducible refine Below.alloc ?_ ?_ _ | with_reducible refine Below.setCell ?_ ?_ _ | with_reducible refine Below.setRow ?_ ?_ _ | with_reducible refine below_step (by assumption) ?_ ?_ | (show (_ : Nat) ≤ _; first | omega | (simp <;> omega)))
  have hsz1 := hb1w.size
  have hB1 : rowOf w1 w.heap.size = #[.int .i8 0, .slice none 0 0] := by (go_simp <;> (intros; omega))
  have hF1 : frOf w1 w.heap.size = (0, 0) := by (go_simp <;> (intros; omega))
  have hgw : w.heap.size + 1 ≤ g := by first | omega | (simp at hg1; omega)
  have HB1 := Lib.hid hb1w
  go_loopw [6] (fun i wr => ∃ j : Nat, j ≤ 3 ∧ i = .int .i64 j ∧ rowOf wr w1.heap.size = #[.int .i8 (cj c j), .slice none 0 0] ∧ frOf wr w1.heap.size = (0, 0) ∧ Below w.heap.size w wr ∧ w1.heap.size + 1 ≤ wr.heap.size ∧ rowOf wr w.heap.size = #[.int .i8 0, .slice none 0 0] ∧ frOf wr w.heap.size = (0, 0) ∧ rowOf wr g = R) (fun i wr => 4 - (intOf i).toNat)
  case atStart => exact ⟨0, by omega, rfl, by rw [show cj c 0 = -1 from by unfold cj; simp]; (go_simp <;> (intros; omega)), by (go_simp <;> (intros; omega)), by repeat' (first | with_reducible exact Below.refl _ _ | with_reducible assumption | with_reducible refine Below.drew ?_ | with_reducible refine Below.drewN ?_ _ | with_reducible refine Below.alloc ?_ ?_ _ | with_reducible refine Below.setCell ?_ ?_ _ | with_reducible refine Below.setRow ?_ ?_ _ | with_reducible refine below_step (by assumption) ?_ ?_ | (show (_ : Nat) ≤ _; first | omega | (simp <;> omega))), by simp, by (go_simp <;> (intros; omega)), by (go_simp <;> (intros; omega)), by (go_simp <;> (intros; omega))⟩
  case round =>
    obtain ⟨j, hj, rfl, hrM, hfM, hb, hsz, hrB, hfB, hrS⟩ := hrel
    have hsz0 := hb.size
    by_cases hj3 : j < 3
    · have hj3' : (j : Int) < 3 := by omega
      have hsg := seg_abc hj3
      have hxt : ((ByteArray.mk #[97, 98, 99]).extract j (j + 1)).toList = [by8 (97 + (j : Int))] := by rw [show (ByteArray.mk #[97, 98, 99]) = ByteArray.mk ([97, 98, 99] : List UInt8).toArray from rfl, ByteArray.extract_mk]; exact (tx_list _).trans hsg
      have hwj : IntKind.i64.wrap ((j : Int) + 1) = ((j + 1 : Nat) : Int) := by rw [IntWalk.i64_in _ (by omega)]; rfl
      have hw8j : IntKind.i8.wrap (j : Int) = (j : Int) := wrap8_in (by omega)
      have hq1 : ¬ 3 < j + 1 := by omega
      have hq2 : ¬ j + 1 < j := by omega
      by_cases hc : c = [by8 (97 + (j : Int))]
      · have HCJ := Lib.hid (cj_hit hj3 hc)
        generalize [by8 (97 + (j : Int))] = ab at *
        have hce : (c == ab) = true := by rw [hc]; exact beq_self_eq_true _
        go_wp2
        go_quiet (fail)
        go_wp2
        go_roundw
        case rel => first | exact ⟨j + 1, by omega, by go_num, by rw [HCJ.out]; (go_simp <;> (intros; omega)), by (go_simp <;> (intros; omega)), by repeat' (first | with_reducible exact Below.refl _ _ | with_reducible assumption | with_reducible refine Below.drew ?_ | with_reducible refine Below.drewN ?_ _ | with_reducible refine Below.alloc ?_ ?_ _ | with_reducible refine Below.setCell ?_ ?_ _ | with_reducible refine Below.setRow ?_ ?_ _ | with_reducible refine below_step (by assumption) ?_ ?_ | (show (_ : Nat) ≤ _; first | omega | (simp <;> omega))), by first | omega | (simp <;> omega), by (go_simp <;> (intros; omega)), by (go_simp <;> (intros; omega)), by (go_simp <;> (intros; omega))⟩ | ((repeat (with_reducible apply Exists.intro)); refine And.intro ?_ ?_; rotate_left; (focus ((repeat' (with_reducible apply And.intro)) <;> rfl)); exact ⟨j + 1, by omega, by go_num, by rw [HCJ.out]; (go_simp <;> (intros; omega)), by (go_simp <;> (intros; omega)), by repeat' (first | with_reducible exact Below.refl _ _ | with_reducible assumption | with_reducible refine Below.drew ?_ | with_reducible refine Below.drewN ?_ _ | with_reducible refine Below.alloc ?_ ?_ _ | with_reducible refine Below.setCell ?_ ?_ _ | with_reducible refine Below.setRow ?_ ?_ _ | with_reducible refine below_step (by assumption) ?_ ?_ | (show (_ : Nat) ≤ _; first | omega | (simp <;> omega))), by first | omega | (simp <;> omega), by (go_simp <;> (intros; omega)), by (go_simp <;> (intros; omega)), by (go_simp <;> (intros; omega))⟩)
        case measure => simp [intOf]; omega
      · have HCJ := Lib.hid (cj_miss hj3 hc)
        generalize [by8 (97 + (j : Int))] = ab at *
        have hce : (c == ab) = false := by rw [beq_eq_false_iff_ne]; exact hc
        go_wp2
        go_quiet (fail)
        go_wp2
        go_roundw
        case rel => first | exact ⟨j + 1, by omega, by go_num, by rw [HCJ.out]; (go_simp <;> (intros; omega)), by (go_simp <;> (intros; omega)), by repeat' (first | with_reducible exact Below.refl _ _ | with_reducible assumption | with_reducible refine Below.drew ?_ | with_reducible refine Below.drewN ?_ _ | with_reducible refine Below.alloc ?_ ?_ _ | with_reducible refine Below.setCell ?_ ?_ _ | with_reducible refine Below.setRow ?_ ?_ _ | with_reducible refine below_step (by assumption) ?_ ?_ | (show (_ : Nat) ≤ _; first | omega | (simp <;> omega))), by first | omega | (simp <;> omega), by (go_simp <;> (intros; omega)), by (go_simp <;> (intros; omega)), by (go_simp <;> (intros; omega))⟩ | ((repeat (with_reducible apply Exists.intro)); refine And.intro ?_ ?_; rotate_left; (focus ((repeat' (with_reducible apply And.intro)) <;> rfl)); exact ⟨j + 1, by omega, by go_num, by rw [HCJ.out]; (go_simp <;> (intros; omega)), by (go_simp <;> (intros; omega)), by repeat' (first | with_reducible exact Below.refl _ _ | with_reducible assumption | with_reducible refine Below.drew ?_ | with_reducible refine Below.drewN ?_ _ | with_reducible refine Below.alloc ?_ ?_ _ | with_reducible refine Below.setCell ?_ ?_ _ | with_reducible refine Below.setRow ?_ ?_ _ | with_reducible refine below_step (by assumption) ?_ ?_ | (show (_ : Nat) ≤ _; first | omega | (simp <;> omega))), by first | omega | (simp <;> omega), by (go_simp <;> (intros; omega)), by (go_simp <;> (intros; omega)), by (go_simp <;> (intros; omega))⟩)
        case measure => simp [intOf]; omega
    · have hje : j = 3 := by omega
      subst hje
      rw [cj_3] at hrM
      have hcolb : -128 ≤ colS c ∧ colS c ≤ 127 := by rw [← cj_3]; have := cj_in c 3; omega
      have HCOL := Lib.hid (show -1 ≤ colS c ∧ colS c ≤ 2 by rw [← cj_3]; exact cj_in c 3)
      go_wp2
      go_loopw [7] (fun i wx => ∃ (k : Nat) (L : List (Int × Int)) (v : Value), k ≤ r.length ∧ i = .int .i64 ((k + 1 : Nat) : Int) ∧ scs (r.take k) = some L ∧ wx.ownsRow (w1.heap.size + 1) 81 2 v L.length (cpL L) ∧ rowOf wx w1.heap.size = #[.int .i8 (colS c), v] ∧ frOf wx w1.heap.size = (0, 0) ∧ Below w.heap.size w wx ∧ w1.heap.size + 1 ≤ wx.heap.size ∧ rowOf wx w.heap.size = #[.int .i8 0, .slice none 0 0] ∧ frOf wx w.heap.size = (0, 0) ∧ rowOf wx g = R) (fun i wx => r.length + 2 - (intOf i).toNat)
      case atStart => exact ⟨0, [], .slice none 0 0, by omega, rfl, rfl, World.ownsRow_nil _ _ _ _, by (go_simp <;> (intros; omega)), by (go_simp <;> (intros; omega)), by repeat' (first | with_reducible exact Below.refl _ _ | with_reducible assumption | with_reducible refine Below.drew ?_ | with_reducible refine Below.drewN ?_ _ | with_reducible refine Below.alloc ?_ ?_ _ | with_reducible refine Below.setCell ?_ ?_ _ | with_reducible refine Below.setRow ?_ ?_ _ | with_reducible refine below_step (by assumption) ?_ ?_ | (show (_ : Nat) ≤ _; first | omega | (simp <;> omega))), by omega, by (go_simp <;> (intros; omega)), by (go_simp <;> (intros; omega)), by (go_simp <;> (intros; omega))⟩
      case round =>
        obtain ⟨k, L, v, hk, rfl, hsc, hown, hrM, hfM, hb, hsz, hrB, hfB, hrS⟩ := hrel
        have hsz0 := hb.size
        obtain ⟨a1, cp1, rfl⟩ := owns_len hown
        obtain rfl : L.length = k := by rw [scs_len hsc, List.length_take]; omega
        have HO := Lib.hid hown
        have HSC := Lib.hid hsc
        clear hown hsc
        by_cases hlt : L.length < r.length
        · obtain ⟨x, hx0⟩ : ∃ x, r[L.length] = x := ⟨_, rfl⟩
          have hx : r[L.length]? = some x := by rw [List.getElem?_eq_getElem hlt, hx0]
          have hsv : R[L.length + 1]? = some (.string (tx x)) := HGR.out (L.length + 1) x (by omega) hx
          have hxl : x.length ≤ 1048576 := Nat.le_trans (HM.out x (List.mem_cons_of_mem _ (by rw [← hx0]; exact List.getElem_mem hlt))) hl
          have hlt2 : ((L.length + 1 : Nat) : Int) < ((r.length + 1 : Nat) : Int) := by omega
          have hlt3 : (L.length : Int) < (r.length : Int) := by omega
          have HBAD := Lib.hid (fun (h : scw x = none) => rm_none (l := l) (HIS.out.trans (by rw [scs_stop HSC.out hx h])))
          have HGOOD := Lib.hid (fun y (h : scw x = some y) => scs_next HSC.out hx h)
          have HSP := Lib.hid (fun w => l01Split_any 44 x hxl w)
          have HM2 := Lib.hid (fun y (h : y ∈ sp 44 x) => seg_le h)
          clear hx hx0
          by_cases h2 : (sp 44 x).length = 2
          case neg =>
            have h2' : ((((sp 44 x).length : Nat) : Int) == 2) = false := by rw [beq_eq_false_iff_ne]; omega
            have hPp : 0 < (sp 44 x).length := List.length_pos_iff.2 (sp_ne 44 x)
            have HRD := Lib.hid (HBAD.out (scw_len h2))
            generalize sp 44 x = P at *
            go_wp2_with (go_at_call 75; refine (HSP.out _).mono ?_; rintro e wp ⟨vP, rfl, hownP, hbp⟩; have r_hbp := keep_rowA hbp; have f_hbp := keep_frA hbp; have s_hbp := hbp.size; (try simp only [World.size_alloc, World.size_setCell, setRow_size, World.size_drew, size_drewNm] at r_hbp f_hbp s_hbp); obtain ⟨g2, cap2, rfl, hg21, hg22, -⟩ := own_strs hownP hPp; clear hownP)
            refine bodyPost_ret (v := (.tuple #[.agg #[.int .i8 0, .slice none 0 0], .int .i64 5])) (res_ct rfl rfl (by (go_simp <;> (intros; omega))) rfl) rfl ⟨_, by rw [HRD.out.1, HRD.out.2.2], by rw [HRD.out.2.1]; exact own_nil, by repeat' (first | with_reducible exact Below.refl _ _ | with_reducible assumption | with_reducible refine Below.drew ?_ | with_reducible refine Below.drewN ?_ _ | with_reducible refine Below.alloc ?_ ?_ _ | with_reducible refine Below.setCell ?_ ?_ _ | with_reducible refine Below.setRow ?_ ?_ _ | with_reducible refine below_step (by assumption) ?_ ?_ | (show (_ : Nat) ≤ _; first | omega | (simp <;> omega)))⟩
          obtain ⟨u, v, hP⟩ : ∃ u v, sp 44 x = [u, v] := by
            match sp 44 x, h2 with
            | [u, v], _ => exact ⟨u, v, rfl⟩
          have hul : u.length ≤ 1048576 := Nat.le_trans (HM2.out u (by rw [hP]; simp)) hxl
          have hvl : v.length ≤ 1048576 := Nat.le_trans (HM2.out v (by rw [hP]; simp)) hxl
          have HP := Lib.hid hP
          rw [hP] at HSP
          clear hP h2
          obtain ⟨a, ba, hA, hA1, hA2⟩ := numV_is u
          obtain ⟨b, bb, hB, hB1, hB2⟩ := numV_is v
          have HNU := Lib.hid (fun w => hA ▸ l01Number_any u hul w)
          have HNV := Lib.hid (fun w => hB ▸ l01Number_any v hvl w)
          clear hA hB
          by_cases hf : ba = false
          · have HRD := Lib.hid (HBAD.out (scw_none1 HP.out (hA2 hf)))
            subst hf
            clear hA1 hA2 hB1 hB2
            go_wp2_with (first | (go_at_call 75; refine (HSP.out _).mono ?_; rintro e wp ⟨vP, rfl, hownP, hbp⟩; have r_hbp := keep_rowA hbp; have f_hbp := keep_frA hbp; have s_hbp := hbp.size; (try simp only [World.size_alloc, World.size_setCell, setRow_size, World.size_drew, size_drewNm] at r_hbp f_hbp s_hbp); obtain ⟨g2, cap2, rfl, hg21, hg22, hgr2⟩ := own_strs hownP (Nat.succ_pos _); have hp0 := hgr2 0 _ (Nat.succ_pos _) rfl; have hp1 := hgr2 1 _ (Nat.succ_lt_succ (Nat.succ_pos _)) rfl; obtain ⟨R2, hR2⟩ : ∃ R2, rowOf wp g2 = R2 := ⟨_, rfl⟩; rw [hR2] at hp0 hp1; have hR2X : rowOfX wp g2 = R2 := hR2; clear hownP hgr2) | (go_at_call 76; with_reducible refine (HNU.out _).mono ?_; rintro e wn ⟨rfl, hbn⟩; have r_hbn := keep_rowA hbn; have f_hbn := keep_frA hbn; have s_hbn := hbn.size; (try simp only [World.size_alloc, World.size_setCell, setRow_size, World.size_drew, size_drewNm] at r_hbn f_hbn s_hbn)) | (go_at_call 76; with_reducible refine (HNV.out _).mono ?_; rintro e wv ⟨rfl, hbv⟩; have r_hbv := keep_rowA hbv; have f_hbv := keep_frA hbv; have s_hbv := hbv.size; (try simp only [World.size_alloc, World.size_setCell, setRow_size, World.size_drew, size_drewNm] at r_hbv f_hbv s_hbv)))
            refine bodyPost_ret (v := (.tuple #[.agg #[.int .i8 0, .slice none 0 0], .int .i64 5])) (res_ct rfl rfl (by (go_simp <;> (intros; omega))) rfl) rfl ⟨_, by rw [HRD.out.1, HRD.out.2.2], by rw [HRD.out.2.1]; exact own_nil, by repeat' (first | with_reducible exact Below.refl _ _ | with_reducible assumption | with_reducible refine Below.drew ?_ | with_reducible refine Below.drewN ?_ _ | with_reducible refine Below.alloc ?_ ?_ _ | with_reducible refine Below.setCell ?_ ?_ _ | with_reducible refine Below.setRow ?_ ?_ _ | with_reducible refine below_step (by assumption) ?_ ?_ | (show (_ : Nat) ≤ _; first | omega | (simp <;> omega)))⟩
          obtain rfl : ba = true := by cases ba <;> first | rfl | (exact absurd rfl hf)
          clear hf
          by_cases hf : bb = false
          · have HRD := Lib.hid (HBAD.out (scw_none2 HP.out (hB2 hf)))
            subst hf
            clear hA1 hA2 hB1 hB2
            go_wp2_with (first | (go_at_call 75; refine (HSP.out _).mono ?_; rintro e wp ⟨vP, rfl, hownP, hbp⟩; have r_hbp := keep_rowA hbp; have f_hbp := keep_frA hbp; have s_hbp := hbp.size; (try simp only [World.size_alloc, World.size_setCell, setRow_size, World.size_drew, size_drewNm] at r_hbp f_hbp s_hbp); obtain ⟨g2, cap2, rfl, hg21, hg22, hgr2⟩ := own_strs hownP (Nat.succ_pos _); have hp0 := hgr2 0 _ (Nat.succ_pos _) rfl; have hp1 := hgr2 1 _ (Nat.succ_lt_succ (Nat.succ_pos _)) rfl; obtain ⟨R2, hR2⟩ : ∃ R2, rowOf wp g2 = R2 := ⟨_, rfl⟩; rw [hR2] at hp0 hp1; have hR2X : rowOfX wp g2 = R2 := hR2; clear hownP hgr2) | (go_at_call 76; with_reducible refine (HNU.out _).mono ?_; rintro e wn ⟨rfl, hbn⟩; have r_hbn := keep_rowA hbn; have f_hbn := keep_frA hbn; have s_hbn := hbn.size; (try simp only [World.size_alloc, World.size_setCell, setRow_size, World.size_drew, size_drewNm] at r_hbn f_hbn s_hbn)) | (go_at_call 76; with_reducible refine (HNV.out _).mono ?_; rintro e wv ⟨rfl, hbv⟩; have r_hbv := keep_rowA hbv; have f_hbv := keep_frA hbv; have s_hbv := hbv.size; (try simp only [World.size_alloc, World.size_setCell, setRow_size, World.size_drew, size_drewNm] at r_hbv f_hbv s_hbv)))
            refine bodyPost_ret (v := (.tuple #[.agg #[.int .i8 0, .slice none 0 0], .int .i64 5])) (res_ct rfl rfl (by (go_simp <;> (intros; omega))) rfl) rfl ⟨_, by rw [HRD.out.1, HRD.out.2.2], by rw [HRD.out.2.1]; exact own_nil, by repeat' (first | with_reducible exact Below.refl _ _ | with_reducible assumption | with_reducible refine Below.drew ?_ | with_reducible refine Below.drewN ?_ _ | with_reducible refine Below.alloc ?_ ?_ _ | with_reducible refine Below.setCell ?_ ?_ _ | with_reducible refine Below.setRow ?_ ?_ _ | with_reducible refine below_step (by assumption) ?_ ?_ | (show (_ : Nat) ≤ _; first | omega | (simp <;> omega)))⟩
          obtain rfl : bb = true := by cases bb <;> first | rfl | (exact absurd rfl hf)
          clear hf
          obtain ⟨a', rfl, hNA⟩ := hA1 rfl
          obtain ⟨b', rfl, hNB⟩ := hB1 rfl
          have HPN := Lib.hid (scw_num HP.out hNA hNB)
          clear hA1 hA2 hB1 hB2 hNA hNB
          by_cases h8a : 8 ≤ a'
          · have HRD := Lib.hid (HBAD.out (HPN.out.trans (if_neg (by omega))))
            have h8i : (8 : Int) ≤ (a' : Int) := by omega
            go_wp2_with (first | (go_at_call 75; refine (HSP.out _).mono ?_; rintro e wp ⟨vP, rfl, hownP, hbp⟩; have r_hbp := keep_rowA hbp; have f_hbp := keep_frA hbp; have s_hbp := hbp.size; (try simp only [World.size_alloc, World.size_setCell, setRow_size, World.size_drew, size_drewNm] at r_hbp f_hbp s_hbp); obtain ⟨g2, cap2, rfl, hg21, hg22, hgr2⟩ := own_strs hownP (Nat.succ_pos _); have hp0 := hgr2 0 _ (Nat.succ_pos _) rfl; have hp1 := hgr2 1 _ (Nat.succ_lt_succ (Nat.succ_pos _)) rfl; obtain ⟨R2, hR2⟩ : ∃ R2, rowOf wp g2 = R2 := ⟨_, rfl⟩; rw [hR2] at hp0 hp1; have hR2X : rowOfX wp g2 = R2 := hR2; clear hownP hgr2) | (go_at_call 76; with_reducible refine (HNU.out _).mono ?_; rintro e wn ⟨rfl, hbn⟩; have r_hbn := keep_rowA hbn; have f_hbn := keep_frA hbn; have s_hbn := hbn.size; (try simp only [World.size_alloc, World.size_setCell, setRow_size, World.size_drew, size_drewNm] at r_hbn f_hbn s_hbn)) | (go_at_call 76; with_reducible refine (HNV.out _).mono ?_; rintro e wv ⟨rfl, hbv⟩; have r_hbv := keep_rowA hbv; have f_hbv := keep_frA hbv; have s_hbv := hbv.size; (try simp only [World.size_alloc, World.size_setCell, setRow_size, World.size_drew, size_drewNm] at r_hbv f_hbv s_hbv)))
            refine bodyPost_ret (v := (.tuple #[.agg #[.int .i8 0, .slice none 0 0], .int .i64 5])) (res_ct rfl rfl (by (go_simp <;> (intros; omega))) rfl) rfl ⟨_, by rw [HRD.out.1, HRD.out.2.2], by rw [HRD.out.2.1]; exact own_nil, by repeat' (first | with_reducible exact Below.refl _ _ | with_reducible assumption | with_reducible refine Below.drew ?_ | with_reducible refine Below.drewN ?_ _ | with_reducible refine Below.alloc ?_ ?_ _ | with_reducible refine Below.setCell ?_ ?_ _ | with_reducible refine Below.setRow ?_ ?_ _ | with_reducible refine below_step (by assumption) ?_ ?_ | (show (_ : Nat) ≤ _; first | omega | (simp <;> omega)))⟩
          have h8ai : ¬ (8 : Int) ≤ (a' : Int) := by omega
          by_cases h8b : 8 ≤ b'
          · have HRD := Lib.hid (HBAD.out (HPN.out.trans (if_neg (by omega))))
            have h8i : (8 : Int) ≤ (b' : Int) := by omega
            go_wp2_with (first | (go_at_call 75; refine (HSP.out _).mono ?_; rintro e wp ⟨vP, rfl, hownP, hbp⟩; have r_hbp := keep_rowA hbp; have f_hbp := keep_frA hbp; have s_hbp := hbp.size; (try simp only [World.size_alloc, World.size_setCell, setRow_size, World.size_drew, size_drewNm] at r_hbp f_hbp s_hbp); obtain ⟨g2, cap2, rfl, hg21, hg22, hgr2⟩ := own_strs hownP (Nat.succ_pos _); have hp0 := hgr2 0 _ (Nat.succ_pos _) rfl; have hp1 := hgr2 1 _ (Nat.succ_lt_succ (Nat.succ_pos _)) rfl; obtain ⟨R2, hR2⟩ : ∃ R2, rowOf wp g2 = R2 := ⟨_, rfl⟩; rw [hR2] at hp0 hp1; have hR2X : rowOfX wp g2 = R2 := hR2; clear hownP hgr2) | (go_at_call 76; with_reducible refine (HNU.out _).mono ?_; rintro e wn ⟨rfl, hbn⟩; have r_hbn := keep_rowA hbn; have f_hbn := keep_frA hbn; have s_hbn := hbn.size; (try simp only [World.size_alloc, World.size_setCell, setRow_size, World.size_drew, size_drewNm] at r_hbn f_hbn s_hbn)) | (go_at_call 76; with_reducible refine (HNV.out _).mono ?_; rintro e wv ⟨rfl, hbv⟩; have r_hbv := keep_rowA hbv; have f_hbv := keep_frA hbv; have s_hbv := hbv.size; (try simp only [World.size_alloc, World.size_setCell, setRow_size, World.size_drew, size_drewNm] at r_hbv f_hbv s_hbv)))
            refine bodyPost_ret (v := (.tuple #[.agg #[.int .i8 0, .slice none 0 0], .int .i64 5])) (res_ct rfl rfl (by (go_simp <;> (intros; omega))) rfl) rfl ⟨_, by rw [HRD.out.1, HRD.out.2.2], by rw [HRD.out.2.1]; exact own_nil, by repeat' (first | with_reducible exact Below.refl _ _ | with_reducible assumption | with_reducible refine Below.drew ?_ | with_reducible refine Below.drewN ?_ _ | with_reducible refine Below.alloc ?_ ?_ _ | with_reducible refine Below.setCell ?_ ?_ _ | with_reducible refine Below.setRow ?_ ?_ _ | with_reducible refine below_step (by assumption) ?_ ?_ | (show (_ : Nat) ≤ _; first | omega | (simp <;> omega)))⟩
          have h8bi : ¬ (8 : Int) ≤ (b' : Int) := by omega
          have HN := Lib.hid (HGOOD.out _ (HPN.out.trans (if_pos ⟨by omega, by omega⟩)))
          have HQ := Lib.hid (cpL_snoc L ((a' : Int), (b' : Int)))
          have hwa : IntKind.i8.wrap (a' : Int) = (a' : Int) := wrap8_in (by omega)
          have hwb : IntKind.i8.wrap (b' : Int) = (b' : Int) := wrap8_in (by omega)
          go_wp2_with (first | (go_at_call 75; refine (HSP.out _).mono ?_; rintro e wp ⟨vP, rfl, hownP, hbp⟩; have r_hbp := keep_rowA hbp; have f_hbp := keep_frA hbp; have s_hbp := hbp.size; (try simp only [World.size_alloc, World.size_setCell, setRow_size, World.size_drew, size_drewNm] at r_hbp f_hbp s_hbp); obtain ⟨g2, cap2, rfl, hg21, hg22, hgr2⟩ := own_strs hownP (Nat.succ_pos _); have hp0 := hgr2 0 _ (Nat.succ_pos _) rfl; have hp1 := hgr2 1 _ (Nat.succ_lt_succ (Nat.succ_pos _)) rfl; obtain ⟨R2, hR2⟩ : ∃ R2, rowOf wp g2 = R2 := ⟨_, rfl⟩; rw [hR2] at hp0 hp1; have hR2X : rowOfX wp g2 = R2 := hR2; clear hownP hgr2) | (go_at_call 76; with_reducible refine (HNU.out _).mono ?_; rintro e wn ⟨rfl, hbn⟩; have r_hbn := keep_rowA hbn; have f_hbn := keep_frA hbn; have s_hbn := hbn.size; (try simp only [World.size_alloc, World.size_setCell, setRow_size, World.size_drew, size_drewNm] at r_hbn f_hbn s_hbn)) | (go_at_call 76; with_reducible refine (HNV.out _).mono ?_; rintro e wv ⟨rfl, hbv⟩; have r_hbv := keep_rowA hbv; have f_hbv := keep_frA hbv; have s_hbv := hbv.size; (try simp only [World.size_alloc, World.size_setCell, setRow_size, World.size_drew, size_drewNm] at r_hbv f_hbv s_hbv)) | (at_builtin; refine wpList_append_own_at _ rfl _ _ 28 rfl (w1.heap.size + 1) 81 i0 z0 2 2 Tryd.underlying28 HI.out.1 HI.out.2.1 HI.out.2.2.1 HI.out.2.2.2.1 HI.out.2.2.2.2 (by decide) _ _ _ rfl ((owns_below HO.out (by repeat' (first | with_reducible exact Below.refl _ _ | with_reducible assumption | with_reducible refine Below.drew ?_ | with_reducible refine Below.drewN ?_ _ | with_reducible refine Below.alloc ?_ ?_ _ | with_reducible refine Below.setCell ?_ ?_ _ | with_reducible refine Below.setRow ?_ ?_ _ | with_reducible refine below_step (by assumption) ?_ ?_ | (show (_ : Nat) ≤ _; first | omega | (simp <;> omega))))).alloc _) ⟨wv.heap.size, 0, none⟩ 1 1 [.int .i8 (a' : Int), .int .i8 (b' : Int)] rfl rfl ?c1 ?c2 ?c3 ?c4 ?c5 ?_))
          case c1 =>
            intro j u hj
            match j, hj with
            | 0, hj => simp at hj; subst hj; simp [Addr.add]
            | 1, hj => simp at hj; subst hj; simp [Addr.add]
          case c2 =>
            intro u hu
            simp at hu
            rcases hu with rfl | rfl <;> rfl
          case c3 => unfold maxLen; omega
          case c4 => omega
          case c5 => first | omega | (simp <;> omega)
          intro v' w2 hown' hgrow _ hat
          have HNE := Lib.hid (owns_base HO.out)
          have hbg : Below w.heap.size w w2 := below_grown (Below.alloc (by repeat' (first | with_reducible exact Below.refl _ _ | with_reducible assumption | with_reducible refine Below.drew ?_ | with_reducible refine Below.drewN ?_ _ | with_reducible refine Below.alloc ?_ ?_ _ | with_reducible refine Below.setCell ?_ ?_ _ | with_reducible refine Below.setRow ?_ ?_ _ | with_reducible refine below_step (by assumption) ?_ ?_ | (show (_ : Nat) ≤ _; first | omega | (simp <;> omega)))) (by omega) _) hgrow (fun q hq => by have := HNE.out q hq; omega) (by first | omega | (simp <;> omega))
          have hs2 : wv.heap.size < w2.heap.size := by first | (have := hgrow.size; omega) | (have := hgrow.size; simp at this; omega)
          have hrB2 : rowOf w2 w.heap.size = #[.int .i8 0, .slice none 0 0] := (grown_row hgrow (by first | omega | (simp <;> omega)) (fun h => by have := HNE.out _ h.symm; omega)).trans (by (go_simp <;> (intros; omega)))
          have hrS2 : rowOf w2 g = R := (grown_row hgrow (by first | omega | (simp <;> omega)) (fun h => by have := HNE.out _ h.symm; omega)).trans (by (go_simp <;> (intros; omega)))
          have hrM2 : rowOf w2 w1.heap.size = #[.int .i8 (colS c), .slice a1 L.length cp1] := (grown_row hgrow (by first | omega | (simp <;> omega)) (fun h => by have := HNE.out _ h.symm; omega)).trans (by (go_simp <;> (intros; omega)))
          have hfB2 : frOf w2 w.heap.size = (0, 0) := (grown_fr hgrow (by first | omega | (simp <;> omega)) (fun h => by have := HNE.out _ h.symm; omega)).trans (by (go_simp <;> (intros; omega)))
          have hfM2 : frOf w2 w1.heap.size = (0, 0) := (grown_fr hgrow (by first | omega | (simp <;> omega)) (fun h => by have := HNE.out _ h.symm; omega)).trans (by (go_simp <;> (intros; omega)))
          have HV' := Lib.hid (show w2.ownsRow (w1.heap.size + 1) 81 2 v' (L ++ [((a' : Int), (b' : Int))]).length (cpL (L ++ [((a' : Int), (b' : Int))])) by rw [List.length_append, HQ.out]; exact hown')
          obtain ⟨a2, cp2, rfl⟩ := owns_len HV'.out
          have HB2 := Lib.hid hbg
          have HNE2 := Lib.hid (owns_base HV'.out)
          clear hbg hown' hgrow hat
          have hszw := HB2.out.size
          go_wp2
          go_roundw
          case rel => first | exact ⟨L.length + 1, L ++ [((a' : Int), (b' : Int))], _, by omega, by go_num, HN.out, owns_other HV'.out (fun q hq => Go.Deep.blk_setCell_other _ _ _ _ (by have := HNE2.out q hq; show q ≠ w1.heap.size; omega)), by (go_simp <;> (intros; omega)), by (go_simp <;> (intros; omega)), (HB2.out.setCell (by show w.heap.size ≤ w1.heap.size; omega) _), by first | omega | (simp <;> omega), by (go_simp <;> (intros; omega)), by (go_simp <;> (intros; omega)), by (go_simp <;> (intros; omega))⟩ | ((repeat (with_reducible apply Exists.intro)); refine And.intro ?_ ?_; rotate_left; (focus ((repeat' (with_reducible apply And.intro)) <;> rfl)); exact ⟨L.length + 1, L ++ [((a' : Int), (b' : Int))], _, by omega, by go_num, HN.out, owns_other HV'.out (fun q hq => Go.Deep.blk_setCell_other _ _ _ _ (by have := HNE2.out q hq; show q ≠ w1.heap.size; omega)), by (go_simp <;> (intros; omega)), by (go_simp <;> (intros; omega)), (HB2.out.setCell (by show w.heap.size ≤ w1.heap.size; omega) _), by first | omega | (simp <;> omega), by (go_simp <;> (intros; omega)), by (go_simp <;> (intros; omega)), by (go_simp <;> (intros; omega))⟩)
          case measure => simp [intOf]; omega
        · have hke : L.length = r.length := by omega
          have hd : decide (((L.length + 1 : Nat) : Int) < ((r.length + 1 : Nat) : Int)) = false := decide_eq_false (by omega)
          have hd2 : ¬ (L.length : Int) < (r.length : Int) := by omega
          have HV := Lib.hid (owns_cellsP HO.out)
          have hsL : scs r = some L := by have := HSC.out; rw [hke, List.take_length] at this; exact this
          have hcells := cellsTo_all (scs_some hsL).2
          have HIS2 := Lib.hid (HIS.out.trans (by rw [hsL]))
          have HT0 := fun w h1 h2 h3 => l06Told_any w1.heap.size (colS c) hcolb (.slice a1 L.length cp1) L.length (gOf L) (by omega) (gOf_in (fun p hp => by have := (scs_some hsL).2 p hp; unfold inP at this; omega)) w h1 h2 h3
          rw [show markB (colS c) (gOf L) L.length = inB (colS c) 0 2 by rw [markB_good hcells, inB_true.2 (show 1 ≤ (L.length : Int) ∧ (L.length : Int) ≤ 64 by omega), Bool.and_true]] at HT0
          clear hcells hsL
          by_cases hcc : colS c = -1
          · have HRD := Lib.hid (rm_none (HIS2.out.trans (if_pos hcc)))
            rw [show inB (colS c) 0 2 = false by rw [hcc]; rfl] at HT0
            have HT := Lib.hid HT0
            clear HT0
            go_wp2_with (go_at_call 45; refine (HT.out _ (HV.out.below (by repeat' (first | with_reducible exact Below.refl _ _ | with_reducible assumption | with_reducible refine Below.drew ?_ | with_reducible refine Below.drewN ?_ _ | with_reducible refine Below.alloc ?_ ?_ _ | with_reducible refine Below.setCell ?_ ?_ _ | with_reducible refine Below.setRow ?_ ?_ _ | with_reducible refine below_step (by assumption) ?_ ?_ | (show (_ : Nat) ≤ _; first | omega | (simp <;> omega)))) (Nat.le_refl _)).slA (by (go_simp <;> (intros; omega))) (by first | omega | (simp <;> omega))).mono ?_; rintro e wt ⟨rfl, hbt⟩; have r_hbt := keep_rowA hbt; have f_hbt := keep_frA hbt; have s_hbt := hbt.size; (try simp only [World.size_alloc, World.size_setCell, setRow_size, World.size_drew, size_drewNm] at r_hbt f_hbt s_hbt))
            refine bodyPost_ret (v := (.tuple #[.agg #[.int .i8 0, .slice none 0 0], .int .i64 5])) (res_ct rfl rfl (by (go_simp <;> (intros; omega))) rfl) rfl ⟨_, by rw [HRD.out.1, HRD.out.2.2], by rw [HRD.out.2.1]; exact own_nil, by repeat' (first | with_reducible exact Below.refl _ _ | with_reducible assumption | with_reducible refine Below.drew ?_ | with_reducible refine Below.drewN ?_ _ | with_reducible refine Below.alloc ?_ ?_ _ | with_reducible refine Below.setCell ?_ ?_ _ | with_reducible refine Below.setRow ?_ ?_ _ | with_reducible refine below_step (by assumption) ?_ ?_ | (show (_ : Nat) ≤ _; first | omega | (simp <;> omega)))⟩
          · have HRD := Lib.hid (rm_some (HIS2.out.trans (if_neg hcc)))
            rw [show inB (colS c) 0 2 = true from inB_true.2 (by have := HCOL.out; omega)] at HT0
            have HT := Lib.hid HT0
            clear HT0
            go_wp2_with (go_at_call 45; refine (HT.out _ (HV.out.below (by repeat' (first | with_reducible exact Below.refl _ _ | with_reducible assumption | with_reducible refine Below.drew ?_ | with_reducible refine Below.drewN ?_ _ | with_reducible refine Below.alloc ?_ ?_ _ | with_reducible refine Below.setCell ?_ ?_ _ | with_reducible refine Below.setRow ?_ ?_ _ | with_reducible refine below_step (by assumption) ?_ ?_ | (show (_ : Nat) ≤ _; first | omega | (simp <;> omega)))) (Nat.le_refl _)).slA (by (go_simp <;> (intros; omega))) (by first | omega | (simp <;> omega))).mono ?_; rintro e wt ⟨rfl, hbt⟩; have r_hbt := keep_rowA hbt; have f_hbt := keep_frA hbt; have s_hbt := hbt.size; (try simp only [World.size_alloc, World.size_setCell, setRow_size, World.size_drew, size_drewNm] at r_hbt f_hbt s_hbt))
            refine bodyPost_ret (v := .tuple #[.agg #[.int .i8 (colS c), .slice a1 L.length cp1], .int .i64 0]) (res_ct rfl rfl (by (go_simp <;> (intros; omega))) rfl) rfl ⟨_, by rw [HRD.out.1, HRD.out.2.2], ?_, by repeat' (first | with_reducible exact Below.refl _ _ | with_reducible assumption | with_reducible refine Below.drew ?_ | with_reducible refine Below.drewN ?_ _ | with_reducible refine Below.alloc ?_ ?_ _ | with_reducible refine Below.setCell ?_ ?_ _ | with_reducible refine Below.setRow ?_ ?_ _ | with_reducible refine below_step (by assumption) ?_ ?_ | (show (_ : Nat) ≤ _; first | omega | (simp <;> omega)))⟩
            rw [HRD.out.2.1]
            refine ((HV.out.below (w' := wt) (by repeat' (first | with_reducible exact Below.refl _ _ | with_reducible assumption | with_reducible refine Below.drew ?_ | with_reducible refine Below.drewN ?_ _ | with_reducible refine Below.alloc ?_ ?_ _ | with_reducible refine Below.setCell ?_ ?_ _ | with_reducible refine Below.setRow ?_ ?_ _ | with_reducible refine below_step (by assumption) ?_ ?_ | (show (_ : Nat) ≤ _; first | omega | (simp <;> omega)))) (Nat.le_refl _)).other ?_ (fun g h1 h2 => ?_)).down (by omega)
            · skip
              simp only [World.size_alloc, World.size_setCell, setRow_size, World.size_drew, size_drewNm]; omega
            have e1 : g ≠ w.heap.size := by omega
            constructor <;> go_simp
end Go.Proofs.YtbnhhjjhjjmmjaaDoor
