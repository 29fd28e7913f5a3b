/- A mark read from a text: the program. -/
import Derived.Test.YtbnhhjjhjjmmjaaDoorRd
import Derived.Test.YtbnhhjjhjjmmjaaDoorMarkT
import Derived.Deep.Heap
namespace Go.Proofs.YtbnhhjjhjjmmjaaDoor
open Go.RowKit Go.Sort
set_option linter.unusedVariables false
set_option linter.unusedSimpArgs false
set_option maxRecDepth 100000
def cpL (L : List (Int × Int)) : List Value := L.flatMap fun p => [.int .i8 p.1, .int .i8 p.2]
theorem cpL_snoc (L : List (Int × Int)) (p : Int × Int) : cpL (L ++ [p]) = cpL L ++ [.int .i8 p.1, .int .i8 p.2] := by unfold cpL; rw [List.flatMap_append]; rfl
theorem cpL_at : ∀ (L : List (Int × Int)) (j : Nat), j < L.length * 2 → (cpL L)[j]? = some (.int .i8 (gOf L j))
  | p :: r, 0, _ => rfl
  | p :: r, 1, _ => rfl
  | p :: r, j + 2, hj => by
    have h := cpL_at r j (by simp at hj; omega)
    have e : cpL (p :: r) = [.int .i8 p.1, .int .i8 p.2] ++ cpL r := rfl
    rw [e, List.getElem?_append_right (by simp), show j + 2 - [Value.int .i8 p.1, .int .i8 p.2].length = j from by simp, h]
    unfold gOf
    rw [show (j + 2) / 2 = j / 2 + 1 from by omega, show (j + 2) % 2 = j % 2 from by omega]
    rfl
theorem owns_cellsP {w : World} {base : Nat} {e : TypeId} {v : Value} {L : List (Int × Int)} (h : w.ownsRow base e 2 v L.length (cpL L)) : OwnK .i8 2 w base v L.length (gOf L) := OwnK.of h (cpL_at L)
theorem owns_other {w w' : World} {base n s : Nat} {e : TypeId} {v : Value} {xs : List Value} (h : w.ownsRow base e s v n xs) (hr : ∀ q, v.ownBlock = some q → w'.heap[q]? = w.heap[q]?) : w'.ownsRow base e s v n xs := by
  obtain ⟨hl, h0 | ⟨g, cap, cur, rfl, h1, h2, h3⟩⟩ := h
  · exact ⟨hl, .inl h0⟩
  · exact ⟨hl, .inr ⟨g, cap, cur, rfl, h1, (hr g rfl).trans h2, h3⟩⟩
theorem grown_fr {w w' : World} {row : Option Nat} (g : w.grownBy w' row) {k : Nat} (hk : k < w.heap.size) (hne : some k ≠ row) : frOf w' k = frOf w k := by unfold frOf; rw [g.block k hk hne]
/-- What both readers give. -/
def rmC (l : List UInt8) : Int := match sMark l with | some (c, _) => c | none => 0
def rmL (l : List UInt8) : List (Int × Int) := match sMark l with | some (_, L) => L | none => []
def rmE (l : List UInt8) : Int := match sMark l with | some _ => 0 | none => 5
theorem rm_some {l : List UInt8} {c : Int} {L : List (Int × Int)} (h : sMark l = some (c, L)) : rmC l = c ∧ rmL l = L ∧ rmE l = 0 := by unfold rmC rmL rmE; rw [h]; exact ⟨rfl, rfl, rfl⟩
theorem rm_none {l : List UInt8} (h : sMark l = none) : rmC l = 0 ∧ rmL l = [] ∧ rmE l = 5 := by unfold rmC rmL rmE; rw [h]; exact ⟨rfl, rfl, rfl⟩
theorem index_range (a b : List UInt8) : -1 ≤ Lib.index a b ∧ Lib.index a b ≤ a.length := ⟨Lib.index_ge a b, Lib.index_le a b⟩
theorem icw_in (x : List UInt8) : (-128 ≤ (icw x).1 ∧ (icw x).1 ≤ 127) ∧ -128 ≤ (icw x).2 ∧ (icw x).2 ≤ 127 := ⟨wrap8_bd _, wrap8_bd _⟩
theorem gOf_in {L : List (Int × Int)} (h : ∀ p ∈ L, (-128 ≤ p.1 ∧ p.1 ≤ 127) ∧ -128 ≤ p.2 ∧ p.2 ≤ 127) : ∀ j, j < L.length * 2 → -128 ≤ gOf L j ∧ gOf L j ≤ 127 := fun j hj => by
  have hk : j / 2 < L.length := by omega
  unfold gOf
  rw [List.getD_eq_getElem?_getD, List.getElem?_eq_getElem hk]
  have := h _ (List.getElem_mem hk)
  split
  · exact this.1
  · exact this.2
theorem own_nil {w : World} {b : Nat} {f : Nat → Int} : OwnK .i8 2 w b (.slice none 0 0) 0 f := .inl ⟨rfl, rfl⟩
theorem index_any (a b : List UInt8) (ha : a.length ≤ 1048576) (w : World) (h : RdW w) : Calls Tryd.prog 83 #[.string (tx a), .string (tx b)] w fun e w' => e = .returned (.int .i64 (Lib.index a b)) ∧ w' = w := by
  obtain ⟨m, hm⟩ := h.max
  exact Tryd.strings_Index (tx a) (tx b) m w (by rw [tx_size]; omega) hm
set_option maxHeartbeats 8000000 in
theorem iReadMark_any (l : List UInt8) (hl : l.length ≤ 1048576) (w : World) (h : RdW w) :
    Calls Tryd.prog 35 #[.string (tx l)] w fun e w' => ∃ v, e = .returned (.tuple #[.agg #[.int .i8 (rmC l), v], .int .i64 (rmE l)]) ∧ OwnK .i8 2 w' w.heap.size v (rmL l).length (gOf (rmL l)) ∧ Below w.heap.size w w' := by
  obtain ⟨i0, z0, hi0, hz0, hs0, hb0, hc0⟩ := spot_info
  have HI := Lib.hid (And.intro hi0 (And.intro hz0 (And.intro hs0 (And.intro hb0 hc0))))
  clear hi0 hz0 hs0 hb0 hc0
  have HR := Lib.hid h
  clear h
  have HS := Lib.hid (fun w h => split_any 32 l hl w h)
  have hWl := sp_len 32 l
  have HM := Lib.hid (fun x (h : x ∈ sp 32 l) => seg_le h)
  have HLAW := Lib.hid (mark_read l)
  obtain ⟨c, r, hW⟩ : ∃ c r, sp 32 l = c :: r := by
    cases h : sp 32 l with
    | nil => exact absurd h (sp_ne 32 l)
    | cons c r => exact ⟨c, r, rfl⟩
  have HIM := Lib.hid (show iMark l = (colI c, r.map icw) by unfold iMark; rw [hW])
  rw [hW] at HS hWl HM
  have hcl : c.length ≤ 1048576 := Nat.le_trans (HM.out c (by simp)) hl
  have HIX := Lib.hid (fun w h => index_any [97, 98, 99] c (by decide) w h)
  have hC : IntKind.i8.wrap (Lib.index [97, 98, 99] c) = colI c := rfl
  have hCb := wrap8_bd (Lib.index [97, 98, 99] c)
  rw [hC] at hCb
  generalize Lib.index [97, 98, 99] c = ix at *
  generalize colI c = C at *
  have hr0 : (strV (c :: r)).toArray[0]? = some (.string (tx c)) := strV_at rfl
  have HRX := Lib.hid (fun k x (h : r[k]? = some x) => (strV_at (W := c :: r) (k := k + 1) h))
  have hnl : (c :: r).length = r.length + 1 := rfl
  rw [hnl] at HS hWl
  generalize (strV (c :: r)).toArray = R at *
  clear hW
  by_cases hrn : r = []
  · subst hrn
    go_enter Tryd.func35, Tryd.ntmps35
    go_wp2_with (first | (go_at_call 82; refine (HS.out _ (HR.out.below (by repeat' (first | with_reducible exact Below.refl _ _ | with_reducible assumption | with_reducible refine Below.drew ?_ | with_reducible refine Below.drewN ?_ _ | with_reducible refine Below.alloc ?_ ?_ _ | with_reducible refine Below.setCell ?_ ?_ _ | with_reducible refine Below.setRow ?_ ?_ _ | with_reducible refine below_step (by assumption) ?_ ?_ | (show (_ : Nat) ≤ _; first | omega | (simp <;> omega)))))).mono ?_; rintro e w1 ⟨rfl, rfl⟩) | (go_at_call 83; refine (HIX.out _ (HR.out.below (by repeat' (first | with_reducible exact Below.refl _ _ | with_reducible assumption | with_reducible refine Below.drew ?_ | with_reducible refine Below.drewN ?_ _ | with_reducible refine Below.alloc ?_ ?_ _ | with_reducible refine Below.setCell ?_ ?_ _ | with_reducible refine Below.setRow ?_ ?_ _ | with_reducible refine below_step (by assumption) ?_ ?_ | (show (_ : Nat) ≤ _; first | omega | (simp <;> omega)))))).mono ?_; rintro e w2 ⟨rfl, rfl⟩))
    go_loopw [26] (fun i wr => i = .int .i64 0 ∧ Below w.heap.size w wr ∧ w.heap.size + 3 ≤ wr.heap.size ∧ rowOf wr w.heap.size = #[.int .i8 0, .slice none 0 0] ∧ frOf wr w.heap.size = (0, 0) ∧ rowOf wr (w.heap.size + 2) = #[.int .i8 C, .slice none 0 0]) (fun i wr => 0)
    case atStart => exact ⟨rfl, by repeat' (first | with_reducible exact Below.refl _ _ | with_reducible assumption | with_reducible refine Below.drew ?_ | with_reducible refine Below.drewN ?_ _ | with_reducible refine Below.alloc ?_ ?_ _ | with_reducible refine Below.setCell ?_ ?_ _ | with_reducible refine Below.setRow ?_ ?_ _ | with_reducible refine below_step (by assumption) ?_ ?_ | (show (_ : Nat) ≤ _; first | omega | (simp <;> omega))), by simp, by (go_simp <;> (intros; omega)), by (go_simp <;> (intros; omega)), by (go_simp <;> (intros; omega))⟩
    case round =>
      obtain ⟨rfl, hb, hsz, hrB, hfB, hrM⟩ := hrel
      have hsz0 := hb.size
      have HV := Lib.hid (own_nil (w := wr) (b := w.heap.size + 3) (f := gOf []))
      have HIM := Lib.hid (show iMark l = (C, []) from HIM.out)
      have hcb : -128 ≤ C ∧ C ≤ 127 := hCb
      have HT0 := fun w h => iMarkText_any C hcb (.slice none 0 0) 0 (gOf []) (by omega) (by first | exact gOf_in (fun p hp => by obtain ⟨x, -, rfl⟩ := List.mem_map.1 hp; exact icw_in x) | (have := gOf_in (L := r.map icw) (fun p hp => by obtain ⟨x, -, rfl⟩ := List.mem_map.1 hp; exact icw_in x); rw [List.length_map] at this; exact this) | (intro j hj; omega)) w h
      by_cases hl0 : l = []
      · have HRD := Lib.hid (rm_none (show sMark l = none by rw [hl0]; rfl))
        subst hl0
        go_wp2
        refine bodyPost_ret (v := .tuple #[.agg #[.int .i8 0, .slice none 0 0], .int .i64 5]) (res_ct rfl rfl (by (go_simp <;> (intros; omega))) rfl) rfl ⟨_, by rw [HRD.out.1, HRD.out.2.2], by rw [HRD.out.2.1]; exact own_nil, by repeat' (first | with_reducible exact Below.refl _ _ | with_reducible assumption | with_reducible refine Below.drew ?_ | with_reducible refine Below.drewN ?_ _ | with_reducible refine Below.alloc ?_ ?_ _ | with_reducible refine Below.setCell ?_ ?_ _ | with_reducible refine Below.setRow ?_ ?_ _ | with_reducible refine below_step (by assumption) ?_ ?_ | (show (_ : Nat) ≤ _; first | omega | (simp <;> omega)))⟩
      have hlb : (l == []) = false := by cases l <;> first | (exact absurd rfl hl0) | rfl
      rcases HLAW.out with ⟨col, L', h1, h2, -, h4⟩ | ⟨h1, h2⟩
      · rw [HIM.out] at h2
        simp only [Prod.mk.injEq] at h2
        obtain ⟨rfl, hL⟩ := h2
        subst hL
        have HRD := Lib.hid (rm_some h1)
        rw [List.length_nil] at h4
        rw [h4] at HT0
        have HT := Lib.hid HT0
        clear HT0 h1 h4
        go_wp2_with (go_at_call 14; refine (HT.out _ (HV.out.below (by repeat' (first | with_reducible exact Below.refl _ _ | with_reducible assumption | with_reducible refine Below.drew ?_ | with_reducible refine Below.drewN ?_ _ | with_reducible refine Below.alloc ?_ ?_ _ | with_reducible refine Below.setCell ?_ ?_ _ | with_reducible refine Below.setRow ?_ ?_ _ | with_reducible refine below_step (by assumption) ?_ ?_ | (show (_ : Nat) ≤ _; first | omega | (simp <;> omega)))) (Nat.le_refl _)).slA).mono ?_; rintro e wf ⟨rfl, hbf⟩; have r_hbf := keep_rowA hbf; have f_hbf := keep_frA hbf; have s_hbf := hbf.size; (try simp only [World.size_alloc, World.size_setCell, setRow_size, World.size_drew, size_drewNm] at r_hbf f_hbf s_hbf))
        refine bodyPost_ret (v := .tuple #[.agg #[.int .i8 C, .slice none 0 0], .int .i64 0]) (res_ct rfl rfl (by (go_simp <;> (intros; omega))) rfl) rfl ⟨_, by rw [HRD.out.1, HRD.out.2.2], ?_, by repeat' (first | with_reducible exact Below.refl _ _ | with_reducible assumption | with_reducible refine Below.drew ?_ | with_reducible refine Below.drewN ?_ _ | with_reducible refine Below.alloc ?_ ?_ _ | with_reducible refine Below.setCell ?_ ?_ _ | with_reducible refine Below.setRow ?_ ?_ _ | with_reducible refine below_step (by assumption) ?_ ?_ | (show (_ : Nat) ≤ _; first | omega | (simp <;> omega)))⟩
        rw [HRD.out.2.1]
        refine ((HV.out.below (w' := wf) (by repeat' (first | with_reducible exact Below.refl _ _ | with_reducible assumption | with_reducible refine Below.drew ?_ | with_reducible refine Below.drewN ?_ _ | with_reducible refine Below.alloc ?_ ?_ _ | with_reducible refine Below.setCell ?_ ?_ _ | with_reducible refine Below.setRow ?_ ?_ _ | with_reducible refine below_step (by assumption) ?_ ?_ | (show (_ : Nat) ≤ _; first | omega | (simp <;> omega)))) (Nat.le_refl _)).other ?_ (fun g h1 h2 => ?_)).down (by omega)
        · skip
          simp only [World.size_alloc, World.size_setCell, setRow_size, World.size_drew, size_drewNm]; omega
        have e1 : g ≠ w.heap.size := by omega
        constructor <;> go_simp
      · have HRD := Lib.hid (rm_none h1)
        rw [HIM.out] at h2
        have hne : markTx C (gOf []) 0 ≠ l := by
          rcases h2 with h2 | h2
          · exact absurd h2 hl0
          · exact h2
        have HT := Lib.hid HT0
        clear HT0 h1 h2
        generalize markTx C (gOf []) 0 = t2 at *
        have hnb : (t2 == l) = false := by rw [beq_eq_false_iff_ne]; exact hne
        go_wp2_with (go_at_call 14; refine (HT.out _ (HV.out.below (by repeat' (first | with_reducible exact Below.refl _ _ | with_reducible assumption | with_reducible refine Below.drew ?_ | with_reducible refine Below.drewN ?_ _ | with_reducible refine Below.alloc ?_ ?_ _ | with_reducible refine Below.setCell ?_ ?_ _ | with_reducible refine Below.setRow ?_ ?_ _ | with_reducible refine below_step (by assumption) ?_ ?_ | (show (_ : Nat) ≤ _; first | omega | (simp <;> omega)))) (Nat.le_refl _)).slA).mono ?_; rintro e wf ⟨rfl, hbf⟩; have r_hbf := keep_rowA hbf; have f_hbf := keep_frA hbf; have s_hbf := hbf.size; (try simp only [World.size_alloc, World.size_setCell, setRow_size, World.size_drew, size_drewNm] at r_hbf f_hbf s_hbf))
        refine bodyPost_ret (v := .tuple #[.agg #[.int .i8 0, .slice none 0 0], .int .i64 5]) (res_ct rfl rfl (by (go_simp <;> (intros; omega))) rfl) rfl ⟨_, by rw [HRD.out.1, HRD.out.2.2], by rw [HRD.out.2.1]; exact own_nil, by repeat' (first | with_reducible exact Below.refl _ _ | with_reducible assumption | with_reducible refine Below.drew ?_ | with_reducible refine Below.drewN ?_ _ | with_reducible refine Below.alloc ?_ ?_ _ | with_reducible refine Below.setCell ?_ ?_ _ | with_reducible refine Below.setRow ?_ ?_ _ | with_reducible refine below_step (by assumption) ?_ ?_ | (show (_ : Nat) ≤ _; first | omega | (simp <;> omega)))⟩
  have hrl : 0 < r.length := List.length_pos_iff.2 hrn
  go_enter Tryd.func35, Tryd.ntmps35
  go_wp2_with (first | (go_at_call 82; refine (HS.out _ (HR.out.below (by repeat' (first | with_reducible exact Below.refl _ _ | with_reducible assumption | with_reducible refine Below.drew ?_ | with_reducible refine Below.drewN ?_ _ | with_reducible refine Below.alloc ?_ ?_ _ | with_reducible refine Below.setCell ?_ ?_ _ | with_reducible refine Below.setRow ?_ ?_ _ | with_reducible refine below_step (by assumption) ?_ ?_ | (show (_ : Nat) ≤ _; first | omega | (simp <;> omega)))))).mono ?_; rintro e w1 ⟨rfl, rfl⟩) | (go_at_call 83; refine (HIX.out _ (HR.out.below (by repeat' (first | with_reducible exact Below.refl _ _ | with_reducible assumption | with_reducible refine Below.drew ?_ | with_reducible refine Below.drewN ?_ _ | with_reducible refine Below.alloc ?_ ?_ _ | with_reducible refine Below.setCell ?_ ?_ _ | with_reducible refine Below.setRow ?_ ?_ _ | with_reducible refine below_step (by assumption) ?_ ?_ | (show (_ : Nat) ≤ _; first | omega | (simp <;> omega)))))).mono ?_; rintro e w2 ⟨rfl, rfl⟩))
  go_loopw [26] (fun i wr => ∃ (k : Nat) (v : Value), k ≤ r.length ∧ i = .int .i64 k ∧ wr.ownsRow (w.heap.size + 3) 81 2 v k (cpL ((r.map icw).take k)) ∧ Below w.heap.size w wr ∧ w.heap.size + 3 ≤ wr.heap.size ∧ rowOf wr w.heap.size = #[.int .i8 0, .slice none 0 0] ∧ frOf wr w.heap.size = (0, 0) ∧ rowOf wr (w.heap.size + 1) = R ∧ rowOf wr (w.heap.size + 2) = #[.int .i8 C, v] ∧ frOf wr (w.heap.size + 2) = (0, 0)) (fun i wr => r.length + 1 - (intOf i).toNat)
  case atStart => exact ⟨0, .slice none 0 0, by omega, rfl, World.ownsRow_nil _ _ _ _, by repeat' (first | with_reducible exact Below.refl _ _ | with_reducible assumption | with_reducible refine Below.drew ?_ | with_reducible refine Below.drewN ?_ _ | with_reducible refine Below.alloc ?_ ?_ _ | with_reducible refine Below.setCell ?_ ?_ _ | with_reducible refine Below.setRow ?_ ?_ _ | with_reducible refine below_step (by assumption) ?_ ?_ | (show (_ : Nat) ≤ _; first | omega | (simp <;> omega))), by simp, by (go_simp <;> (intros; omega)), by (go_simp <;> (intros; omega)), by (go_simp <;> (intros; omega)), by (go_simp <;> (intros; omega)), by (go_simp <;> (intros; omega))⟩
  case round =>
    obtain ⟨k, v, hk, rfl, hown, hb, hsz, hrB, hfB, hrS, hrM, hfM⟩ := hrel
    have hsz0 := hb.size
    obtain ⟨a1, cp1, rfl⟩ := owns_len hown
    have HO := Lib.hid hown
    clear hown
    by_cases hlt : k < r.length
    · obtain ⟨x, hx0⟩ : ∃ x, r[k] = x := ⟨_, rfl⟩
      have hx : r[k]? = some x := by rw [List.getElem?_eq_getElem hlt, hx0]
      have hsv : R[k + 1]? = some (.string (tx x)) := HRX.out k x hx
      have hsv' : R[1 + k]? = some (.string (tx x)) := by rw [Nat.add_comm]; exact hsv
      have hxl : x.length ≤ 1048576 := Nat.le_trans (HM.out x (List.mem_cons_of_mem _ (by rw [← hx0]; exact List.getElem_mem hlt))) hl
      have hlt2 : (k : Int) < (r.length : Int) := by omega
      have HQ := Lib.hid (show cpL ((r.map icw).take (k + 1)) = cpL ((r.map icw).take k) ++ [.int .i8 (IntKind.i8.wrap (pi8 (cut1 44 x))), .int .i8 (IntKind.i8.wrap (pi8 (cut2 44 x)))] by rw [List.take_add_one, List.getElem?_map, hx]; exact cpL_snoc _ _)
      have hc1 := cut1_len 44 x
      have hc2 := cut2_len 44 x
      have HC := Lib.hid (fun w h => cut_any 44 x hxl w h)
      have HP1 := Lib.hid (fun w h => parse8_any (cut1 44 x) (by omega) w h)
      have HP2 := Lib.hid (fun w h => parse8_any (cut2 44 x) (by omega) w h)
      generalize cut1 44 x = y1 at *
      generalize cut2 44 x = y2 at *
      generalize pi8 y1 = p1 at *
      generalize pi8 y2 = p2 at *
      clear hc1 hc2 hx hx0
      go_wp2_with (go_at_call 78; refine (HC.out _ (HR.out.below (by repeat' (first | with_reducible exact Below.refl _ _ | with_reducible assumption | with_reducible refine Below.drew ?_ | with_reducible refine Below.drewN ?_ _ | with_reducible refine Below.alloc ?_ ?_ _ | with_reducible refine Below.setCell ?_ ?_ _ | with_reducible refine Below.setRow ?_ ?_ _ | with_reducible refine below_step (by assumption) ?_ ?_ | (show (_ : Nat) ≤ _; first | omega | (simp <;> omega)))))).mono ?_; rintro e wc ⟨okc, rfl, hbc⟩; have r_hbc := keep_rowA hbc; have f_hbc := keep_frA hbc; have s_hbc := hbc.size; (try simp only [World.size_alloc, World.size_setCell, setRow_size, World.size_drew, size_drewNm] at r_hbc f_hbc s_hbc))
      go_wp2_with (go_at_call 79; with_reducible refine (HP1.out _ (HR.out.below (by repeat' (first | with_reducible exact Below.refl _ _ | with_reducible assumption | with_reducible refine Below.drew ?_ | with_reducible refine Below.drewN ?_ _ | with_reducible refine Below.alloc ?_ ?_ _ | with_reducible refine Below.setCell ?_ ?_ _ | with_reducible refine Below.setRow ?_ ?_ _ | with_reducible refine below_step (by assumption) ?_ ?_ | (show (_ : Nat) ≤ _; first | omega | (simp <;> omega)))))).mono ?_; rintro e wp ⟨er1, rfl, hbp⟩; have r_hbp := keep_rowA hbp; have f_hbp := keep_frA hbp; have s_hbp := hbp.size; (try simp only [World.size_alloc, World.size_setCell, setRow_size, World.size_drew, size_drewNm] at r_hbp f_hbp s_hbp))
      go_wp2_with (first | (go_at_call 79; with_reducible refine (HP2.out _ (HR.out.below (by repeat' (first | with_reducible exact Below.refl _ _ | with_reducible assumption | with_reducible refine Below.drew ?_ | with_reducible refine Below.drewN ?_ _ | with_reducible refine Below.alloc ?_ ?_ _ | with_reducible refine Below.setCell ?_ ?_ _ | with_reducible refine Below.setRow ?_ ?_ _ | with_reducible refine below_step (by assumption) ?_ ?_ | (show (_ : Nat) ≤ _; first | omega | (simp <;> omega)))))).mono ?_; rintro e wq ⟨er2, rfl, hbq⟩; have r_hbq := keep_rowA hbq; have f_hbq := keep_frA hbq; have s_hbq := hbq.size; (try simp only [World.size_alloc, World.size_setCell, setRow_size, World.size_drew, size_drewNm] at r_hbq f_hbq s_hbq)) | (at_builtin; refine wpList_append_own_at _ rfl _ _ 28 rfl (w.heap.size + 3) 81 i0 z0 2 2 Tryd.underlying28 HI.out.1 HI.out.2.1 HI.out.2.2.1 HI.out.2.2.2.1 HI.out.2.2.2.2 (by decide) _ _ _ rfl ((owns_below HO.out (by repeat' (first | with_reducible exact Below.refl _ _ | with_reducible assumption | with_reducible refine Below.drew ?_ | with_reducible refine Below.drewN ?_ _ | with_reducible refine Below.alloc ?_ ?_ _ | with_reducible refine Below.setCell ?_ ?_ _ | with_reducible refine Below.setRow ?_ ?_ _ | with_reducible refine below_step (by assumption) ?_ ?_ | (show (_ : Nat) ≤ _; first | omega | (simp <;> omega))))).alloc _) ⟨wq.heap.size, 0, none⟩ 1 1 [.int .i8 (IntKind.i8.wrap p1), .int .i8 (IntKind.i8.wrap p2)] rfl rfl ?c1 ?c2 ?c3 ?c4 ?c5 ?_))
      case c1 =>
        intro j u hj
        match j, hj with
        | 0, hj => simp at hj; subst hj; simp [Addr.add]
        | 1, hj => simp at hj; subst hj; simp [Addr.add]
      case c2 =>
        intro u hu
        simp at hu
        rcases hu with rfl | rfl <;> rfl
      case c3 => unfold maxLen; omega
      case c4 => omega
      case c5 => first | omega | (simp <;> omega)
      intro v' w2 hown' hgrow _ hat
      have HNE := Lib.hid (owns_base HO.out)
      have hbg : Below w.heap.size w w2 := below_grown (Below.alloc (by repeat' (first | with_reducible exact Below.refl _ _ | with_reducible assumption | with_reducible refine Below.drew ?_ | with_reducible refine Below.drewN ?_ _ | with_reducible refine Below.alloc ?_ ?_ _ | with_reducible refine Below.setCell ?_ ?_ _ | with_reducible refine Below.setRow ?_ ?_ _ | with_reducible refine below_step (by assumption) ?_ ?_ | (show (_ : Nat) ≤ _; first | omega | (simp <;> omega)))) (by omega) _) hgrow (fun q hq => by have := HNE.out q hq; omega) (by first | omega | (simp <;> omega))
      have hs2 : wq.heap.size < w2.heap.size := by first | (have := hgrow.size; omega) | (have := hgrow.size; simp at this; omega)
      have hrB2 : rowOf w2 w.heap.size = #[.int .i8 0, .slice none 0 0] := (grown_row hgrow (by first | omega | (simp <;> omega)) (fun h => by have := HNE.out _ h.symm; omega)).trans (by (go_simp <;> (intros; omega)))
      have hrS2 : rowOf w2 (w.heap.size + 1) = R := (grown_row hgrow (by first | omega | (simp <;> omega)) (fun h => by have := HNE.out _ h.symm; omega)).trans (by (go_simp <;> (intros; omega)))
      have hrM2 : rowOf w2 (w.heap.size + 2) = #[.int .i8 C, .slice a1 k cp1] := (grown_row hgrow (by first | omega | (simp <;> omega)) (fun h => by have := HNE.out _ h.symm; omega)).trans (by (go_simp <;> (intros; omega)))
      have hfB2 : frOf w2 w.heap.size = (0, 0) := (grown_fr hgrow (by first | omega | (simp <;> omega)) (fun h => by have := HNE.out _ h.symm; omega)).trans (by (go_simp <;> (intros; omega)))
      have hfM2 : frOf w2 (w.heap.size + 2) = (0, 0) := (grown_fr hgrow (by first | omega | (simp <;> omega)) (fun h => by have := HNE.out _ h.symm; omega)).trans (by (go_simp <;> (intros; omega)))
      rw [← HQ.out] at hown'
      obtain ⟨a2, cp2, rfl⟩ := owns_len hown'
      have HB2 := Lib.hid hbg
      have HW := Lib.hid hown'
      have HNE2 := Lib.hid (owns_base hown')
      clear hbg hown' hgrow hat
      have hszw := HB2.out.size
      go_wp2
      go_roundw
      case rel => first | exact ⟨k + 1, .slice a2 (k + 1) cp2, by omega, by go_num, owns_other HW.out (fun q hq => Go.Deep.blk_setCell_other _ _ _ _ (by have := HNE2.out q hq; show q ≠ w.heap.size + 2; omega)), (HB2.out.setCell (by show w.heap.size ≤ w.heap.size + 2; omega) _), by first | omega | (simp <;> omega), by (go_simp <;> (intros; omega)), by (go_simp <;> (intros; omega)), by (go_simp <;> (intros; omega)), by (go_simp <;> (intros; omega)), by (go_simp <;> (intros; omega))⟩ | ((repeat (with_reducible apply Exists.intro)); refine And.intro ?_ ?_; rotate_left; (focus ((repeat' (with_reducible apply And.intro)) <;> rfl)); exact ⟨k + 1, .slice a2 (k + 1) cp2, by omega, by go_num, owns_other HW.out (fun q hq => Go.Deep.blk_setCell_other _ _ _ _ (by have := HNE2.out q hq; show q ≠ w.heap.size + 2; omega)), (HB2.out.setCell (by show w.heap.size ≤ w.heap.size + 2; omega) _), by first | omega | (simp <;> omega), by (go_simp <;> (intros; omega)), by (go_simp <;> (intros; omega)), by (go_simp <;> (intros; omega)), by (go_simp <;> (intros; omega)), by (go_simp <;> (intros; omega))⟩)
      case measure => simp [intOf]; omega
    · have hke : k = r.length := by omega
      subst hke
      have hd : decide ((r.length : Int) < (r.length : Int)) = false := decide_eq_false (by omega)
      have HV := Lib.hid (show OwnK .i8 2 wr (w.heap.size + 3) (.slice a1 r.length cp1) r.length (gOf (r.map icw)) by have h := HO.out; rw [List.take_of_length_le (by rw [List.length_map]; exact Nat.le_refl _)] at h; have h2 := owns_cellsP (L := r.map icw) (by rw [List.length_map]; exact h); rw [List.length_map] at h2; exact h2)
      have hcb : -128 ≤ C ∧ C ≤ 127 := hCb
      have HT0 := fun w h => iMarkText_any C hcb ((.slice a1 r.length cp1)) r.length (gOf (r.map icw)) (by omega) (by first | exact gOf_in (fun p hp => by obtain ⟨x, -, rfl⟩ := List.mem_map.1 hp; exact icw_in x) | (have := gOf_in (L := r.map icw) (fun p hp => by obtain ⟨x, -, rfl⟩ := List.mem_map.1 hp; exact icw_in x); rw [List.length_map] at this; exact this) | (intro j hj; omega)) w h
      by_cases hl0 : l = []
      · have HRD := Lib.hid (rm_none (show sMark l = none by rw [hl0]; rfl))
        subst hl0
        go_wp2
        refine bodyPost_ret (v := .tuple #[.agg #[.int .i8 0, .slice none 0 0], .int .i64 5]) (res_ct rfl rfl (by (go_simp <;> (intros; omega))) rfl) rfl ⟨_, by rw [HRD.out.1, HRD.out.2.2], by rw [HRD.out.2.1]; exact own_nil, by repeat' (first | with_reducible exact Below.refl _ _ | with_reducible assumption | with_reducible refine Below.drew ?_ | with_reducible refine Below.drewN ?_ _ | with_reducible refine Below.alloc ?_ ?_ _ | with_reducible refine Below.setCell ?_ ?_ _ | with_reducible refine Below.setRow ?_ ?_ _ | with_reducible refine below_step (by assumption) ?_ ?_ | (show (_ : Nat) ≤ _; first | omega | (simp <;> omega)))⟩
      have hlb : (l == []) = false := by cases l <;> first | (exact absurd rfl hl0) | rfl
      rcases HLAW.out with ⟨col, L', h1, h2, -, h4⟩ | ⟨h1, h2⟩
      · rw [HIM.out] at h2
        simp only [Prod.mk.injEq] at h2
        obtain ⟨rfl, hL⟩ := h2
        subst hL
        have HRD := Lib.hid (rm_some h1)
        rw [List.length_map] at h4
        rw [h4] at HT0
        have HT := Lib.hid HT0
        clear HT0 h1 h4
        go_wp2_with (go_at_call 14; refine (HT.out _ (HV.out.below (by repeat' (first | with_reducible exact Below.refl _ _ | with_reducible assumption | with_reducible refine Below.drew ?_ | with_reducible refine Below.drewN ?_ _ | with_reducible refine Below.alloc ?_ ?_ _ | with_reducible refine Below.setCell ?_ ?_ _ | with_reducible refine Below.setRow ?_ ?_ _ | with_reducible refine below_step (by assumption) ?_ ?_ | (show (_ : Nat) ≤ _; first | omega | (simp <;> omega)))) (Nat.le_refl _)).slA).mono ?_; rintro e wf ⟨rfl, hbf⟩; have r_hbf := keep_rowA hbf; have f_hbf := keep_frA hbf; have s_hbf := hbf.size; (try simp only [World.size_alloc, World.size_setCell, setRow_size, World.size_drew, size_drewNm] at r_hbf f_hbf s_hbf))
        refine bodyPost_ret (v := .tuple #[.agg #[.int .i8 C, (.slice a1 r.length cp1)], .int .i64 0]) (res_ct rfl rfl (by (go_simp <;> (intros; omega))) rfl) rfl ⟨_, by rw [HRD.out.1, HRD.out.2.2], ?_, by repeat' (first | with_reducible exact Below.refl _ _ | with_reducible assumption | with_reducible refine Below.drew ?_ | with_reducible refine Below.drewN ?_ _ | with_reducible refine Below.alloc ?_ ?_ _ | with_reducible refine Below.setCell ?_ ?_ _ | with_reducible refine Below.setRow ?_ ?_ _ | with_reducible refine below_step (by assumption) ?_ ?_ | (show (_ : Nat) ≤ _; first | omega | (simp <;> omega)))⟩
        rw [HRD.out.2.1, List.length_map]
        refine ((HV.out.below (w' := wf) (by repeat' (first | with_reducible exact Below.refl _ _ | with_reducible assumption | with_reducible refine Below.drew ?_ | with_reducible refine Below.drewN ?_ _ | with_reducible refine Below.alloc ?_ ?_ _ | with_reducible refine Below.setCell ?_ ?_ _ | with_reducible refine Below.setRow ?_ ?_ _ | with_reducible refine below_step (by assumption) ?_ ?_ | (show (_ : Nat) ≤ _; first | omega | (simp <;> omega)))) (Nat.le_refl _)).other ?_ (fun g h1 h2 => ?_)).down (by omega)
        · skip
          simp only [World.size_alloc, World.size_setCell, setRow_size, World.size_drew, size_drewNm]; omega
        have e1 : g ≠ w.heap.size := by omega
        constructor <;> go_simp
      · have HRD := Lib.hid (rm_none h1)
        rw [HIM.out] at h2
        have hne : markTx C (gOf (r.map icw)) r.length ≠ l := by
          rcases h2 with h2 | h2
          · exact absurd h2 hl0
          · simp only [List.length_map] at h2; exact h2
        have HT := Lib.hid HT0
        clear HT0 h1 h2
        generalize markTx C (gOf (r.map icw)) r.length = t2 at *
        have hnb : (t2 == l) = false := by rw [beq_eq_false_iff_ne]; exact hne
        go_wp2_with (go_at_call 14; refine (HT.out _ (HV.out.below (by repeat' (first | with_reducible exact Below.refl _ _ | with_reducible assumption | with_reducible refine Below.drew ?_ | with_reducible refine Below.drewN ?_ _ | with_reducible refine Below.alloc ?_ ?_ _ | with_reducible refine Below.setCell ?_ ?_ _ | with_reducible refine Below.setRow ?_ ?_ _ | with_reducible refine below_step (by assumption) ?_ ?_ | (show (_ : Nat) ≤ _; first | omega | (simp <;> omega)))) (Nat.le_refl _)).slA).mono ?_; rintro e wf ⟨rfl, hbf⟩; have r_hbf := keep_rowA hbf; have f_hbf := keep_frA hbf; have s_hbf := hbf.size; (try simp only [World.size_alloc, World.size_setCell, setRow_size, World.size_drew, size_drewNm] at r_hbf f_hbf s_hbf))
        refine bodyPost_ret (v := .tuple #[.agg #[.int .i8 0, .slice none 0 0], .int .i64 5]) (res_ct rfl rfl (by (go_simp <;> (intros; omega))) rfl) rfl ⟨_, by rw [HRD.out.1, HRD.out.2.2], by rw [HRD.out.2.1]; exact own_nil, by repeat' (first | with_reducible exact Below.refl _ _ | with_reducible assumption | with_reducible refine Below.drew ?_ | with_reducible refine Below.drewN ?_ _ | with_reducible refine Below.alloc ?_ ?_ _ | with_reducible refine Below.setCell ?_ ?_ _ | with_reducible refine Below.setRow ?_ ?_ _ | with_reducible refine below_step (by assumption) ?_ ?_ | (show (_ : Nat) ≤ _; first | omega | (simp <;> omega)))⟩
end Go.Proofs.YtbnhhjjhjjmmjaaDoor
