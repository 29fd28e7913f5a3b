/- The mark without which the others make a picture: both sides. Written by gen_fors.py. -/
import Derived.Test.YtifhffnppgkjgaaGreatDoorOrdT
import Derived.Test.YtifhffnppgkjgaaGreatDoorForP
namespace Go.Proofs.YtifhffnppgkjgaaGreatDoor
open Go.RowKit
set_option linter.unusedVariables false
set_option linter.unusedSimpArgs false
set_option maxRecDepth 100000
set_option maxHeartbeats 4000000 in
theorem toMarkS_full (v : Value) (n : Nat) (F : Nat → Mk) (hn : n ≤ 1048576) (hF : ∀ k, k < n → (F k).n ≤ 1048576) (w : World) (h : SlM w v n F) :
    Calls Tryz.prog 11 #[v] w fun e w' => ∃ v' G g, e = .returned v' ∧ v' = .slice (some ⟨g, 0, none⟩) n n ∧ OwnM w' w.heap.size v' n (setV F G) ∧ Below w.heap.size w w' := by
  obtain ⟨Z, hZ⟩ := mark_made
  have hzs := (hZ n).1
  have hmk := (hZ n).2 hn
  clear hZ
  generalize Z n = z at hzs hmk
  obtain ⟨a, cap, rfl⟩ := h.1.len
  have HH := Lib.hid h
  have HF := Lib.hid hF
  clear h hF
  go_enter Tryz.func11, Tryz.ntmps11
  go_wp2
  go_loopw [4] (fun i wr => ∃ (k : Nat) (d : Array Value) (G : Nat → Value), k ≤ n ∧ i = .int .i64 k ∧ Below w.heap.size w wr ∧ w.heap.size + 1 ≤ wr.heap.size ∧ frOf wr w.heap.size = (0, 0) ∧ rowOf wr w.heap.size = d ∧ d.size = n * 2 ∧ (∀ i, i < k → ∀ j, j < 2 → d[i * 2 + j]? = some (mkV (setV F G) i j)) ∧ ∀ i, i < k → OwnK .i8 2 wr (w.heap.size + 1) (G i) (F i).n (F i).f) (fun i wr => n - (intOf i).toNat)
  case atStart => exact ⟨0, z, fun _ => .slice none 0 0, by omega, rfl, by repeat' (first | with_reducible exact Below.refl _ _ | with_reducible assumption | with_reducible refine Below.drew ?_ | with_reducible refine Below.drewN ?_ _ | with_reducible refine Below.alloc ?_ ?_ _ | with_reducible refine Below.setCell ?_ ?_ _ | with_reducible refine Below.setRow ?_ ?_ _ | with_reducible refine below_step (by assumption) ?_ ?_ | (show (_ : Nat) ≤ _; first | omega | (simp <;> omega))), by simp, by (go_simp <;> (intros; omega)), by (go_simp <;> (intros; omega)), hzs, fun j hj => absurd hj (by omega), fun j hj => absurd hj (by omega)⟩
  case round =>
    obtain ⟨k, d, G, hk, rfl, hb, hsz, hfr, hrd, hds, hd, hc⟩ := hrel
    have HD := Lib.hid hd
    have HC := Lib.hid hc
    clear hd hc
    by_cases hlt : k < n
    · obtain ⟨g, o, cap', hv, hg, hRs, hcells⟩ := HH.out.1.pos (by omega)
      simp only [Value.slice.injEq] at hv
      obtain ⟨rfl, -, rfl⟩ := hv
      have hr1 := keep_row hb hg
      have hw1 : g < wr.heap.size := Nat.lt_of_lt_of_le hg hb.size
      have he : rowExt (rowOf w g) (o + k * 2) 2 = #[.int .i8 (F k).col, (F k).v] := mk_ext2 (hcells k hlt)
      have HP := Lib.hid (fun u => put_mark (u := u) hds hlt HD.out)
      have HS := Lib.hid (HH.out.2 k hlt)
      have HT0 := fun w h => toMark_any (F k).col (F k).v (F k).n (F k).f (HF.out k hlt) w h
      have HT := Lib.hid HT0
      obtain ⟨R, hR⟩ : ∃ R, rowOf w g = R := ⟨_, rfl⟩
      rw [hR] at hr1 he hRs
      have hRk : o + k * 2 + 2 ≤ R.size := by omega
      have hlt2 : (k : Int) < (n : Int) := by omega
      clear hcells hR HT0
      generalize hvk : (F k).v = vk at *
      generalize hck : (F k).col = ck at *
      go_wp2_with (go_at_call 33; refine (HT.out _ (HS.out.below (by repeat' (first | with_reducible exact Below.refl _ _ | with_reducible assumption | with_reducible refine Below.drew ?_ | with_reducible refine Below.drewN ?_ _ | with_reducible refine Below.alloc ?_ ?_ _ | with_reducible refine Below.setCell ?_ ?_ _ | with_reducible refine Below.setRow ?_ ?_ _ | with_reducible refine below_step (by assumption) ?_ ?_ | (show (_ : Nat) ≤ _; first | omega | (simp <;> omega)))) (Nat.le_refl _))).mono ?_; rintro e wt ⟨vt, rfl, ho, hbt⟩; obtain ⟨at0, capt, rfl⟩ := ho.len; have r_hbt := keep_rowA hbt; have f_hbt := keep_frA hbt; have s_hbt := hbt.size; (try simp only [World.size_alloc, World.size_setCell, setRow_size, World.size_drew, size_drewNm] at r_hbt f_hbt s_hbt); have HO := Lib.hid (ho.down (b' := w.heap.size + 1) (by first | omega | (simp <;> omega))); clear ho)
      have HK := Lib.hid (show ∀ i, i < k + 1 → OwnK .i8 2 wt (w.heap.size + 1) (upV G k (.slice at0 (F k).n capt) i) (F i).n (F i).f from put_cells (fun i hi => (HC.out i hi).below (by repeat' (first | with_reducible exact Below.refl _ _ | with_reducible assumption | with_reducible refine Below.drew ?_ | with_reducible refine Below.drewN ?_ _ | with_reducible refine Below.alloc ?_ ?_ _ | with_reducible refine Below.setCell ?_ ?_ _ | with_reducible refine Below.setRow ?_ ?_ _ | with_reducible refine below_step (by assumption) ?_ ?_ | (show (_ : Nat) ≤ _; first | omega | (simp <;> omega)))) (Nat.le_refl _)) HO.out)
      go_roundw
      case rel => exact ⟨k + 1, splice d (k * 2) #[.int .i8 ck, .slice at0 (F k).n capt], upV G k (.slice at0 (F k).n capt), by omega, by go_num, by repeat' (first | with_reducible exact Below.refl _ _ | with_reducible assumption | with_reducible refine Below.drew ?_ | with_reducible refine Below.drewN ?_ _ | with_reducible refine Below.alloc ?_ ?_ _ | with_reducible refine Below.setCell ?_ ?_ _ | with_reducible refine Below.setRow ?_ ?_ _ | with_reducible refine below_step (by assumption) ?_ ?_ | (show (_ : Nat) ≤ _; first | omega | (simp <;> omega))), by simp; omega, by (go_simp <;> (intros; omega)), by (go_simp <;> (intros; omega)), by rw [splice_size]; exact hds, HP.out _, fun i hi => (HK.out i hi).other (by simp) (fun q h1 h2 => by
          have hq : q ≠ w.heap.size := by omega
          exact ⟨by go_simp, by go_simp⟩)⟩
      case measure => simp [intOf]; omega
    · have hke : k = n := by omega
      subst hke
      go_wp2
      go_ret
      exact ⟨_, G, w.heap.size, rfl, rfl, ⟨.inr ⟨_, _, rfl, Nat.le_refl _, by omega, hfr, by rw [hrd]; omega, fun i hi j hj => by rw [hrd]; exact HD.out i hi j hj⟩, fun i hi => (HC.out i hi).down (by omega)⟩, by repeat' (first | with_reducible exact Below.refl _ _ | with_reducible assumption | with_reducible refine Below.drew ?_ | with_reducible refine Below.drewN ?_ _ | with_reducible refine Below.alloc ?_ ?_ _ | with_reducible refine Below.setCell ?_ ?_ _ | with_reducible refine Below.setRow ?_ ?_ _ | with_reducible refine below_step (by assumption) ?_ ?_ | (show (_ : Nat) ≤ _; first | omega | (simp <;> omega)))⟩
def skG (G : Nat → Value) (i k : Nat) : Value := if k < i then G k else G (k + 1)
theorem sk_set (F : Nat → Mk) (G : Nat → Value) (i : Nat) : skF (setV F G) i = setV (skF F i) (skG G i) := by
  funext k
  by_cases h : k < i <;> simp [skF, setV, skG, h]
theorem allO_sk (c : Nat → Int) (n : Nat) (F : Nat → Mk) (G : Nat → Value) (i : Nat) (P : List (List UInt8)) : allO c n (skF (setV F G) i) P = allO c n (skF F i) P := by rw [sk_set, allO_set]
theorem sk_lay {F : Nat → Mk} {n i : Nat} (h : ∀ k, k < n → MkLay (F k)) (hi : i < n) : ∀ k, k < n - 1 → MkLay (skF F i k) := fun k hk => by
  unfold skF
  split
  · exact h k (by omega)
  · exact h (k + 1) (by omega)
theorem own_sk {w w' : World} {b base n i : Nat} {v v' : Value} {F : Nat → Mk} (h : OwnM w b v n F) (hi : i < n) (hb : Below w.heap.size w w') (hv : OwnV 2 w' base v' (n - 1) (mkV (skF F i))) : OwnM w' 0 v' (n - 1) (skF F i) := by
  refine ⟨hv.down (Nat.zero_le _), fun k hk => ?_⟩
  unfold skF
  split
  · exact ((h.2 k (by omega)).below hb (Nat.le_refl _)).down (Nat.zero_le _)
  · exact ((h.2 (k + 1) (by omega)).below hb (Nat.le_refl _)).down (Nat.zero_le _)
/-- The first mark without which the others make the picture. -/
def fgI (c : Nat → Int) (n : Nat) (F : Nat → Mk) (P : List (List UInt8)) : Option Nat := (List.range n).find? fun i => !(allO c (n - 1) (skF F i) P).isEmpty
theorem fg_hit {c : Nat → Int} {n k : Nat} {F : Nat → Mk} {P : List (List UInt8)} (hk : k < n) (hno : ∀ j, j < k → allO c (n - 1) (skF F j) P = []) (h : allO c (n - 1) (skF F k) P ≠ []) : fgI c n F P = some k := by
  unfold fgI
  rw [List.find?_range_eq_some]
  refine ⟨?_, List.mem_range.2 hk, fun j hj => ?_⟩
  · cases h2 : allO c (n - 1) (skF F k) P with
    | nil => exact absurd h2 h
    | cons a b => rfl
  · rw [hno j hj]; rfl
theorem fg_miss {c : Nat → Int} {n : Nat} {F : Nat → Mk} {P : List (List UInt8)} (hno : ∀ j, j < n → allO c (n - 1) (skF F j) P = []) : fgI c n F P = none := by
  unfold fgI
  rw [List.find?_range_eq_none]
  intro j hj
  rw [hno j hj]; rfl
noncomputable def fgN (c : Nat → Int) (n : Nat) (F : Nat → Mk) (P : List (List UInt8)) : Int := if vmB c n F = true ∧ allO c n F P = [] then (match fgI c n F P with | some i => (i : Int) | none => 0) else 0
noncomputable def fgE (c : Nat → Int) (n : Nat) (F : Nat → Mk) (P : List (List UInt8)) : Int := if vmB c n F = true then (if allO c n F P = [] then (match fgI c n F P with | some _ => 0 | none => 6) else 4) else 1
theorem fg_bad {c : Nat → Int} {n : Nat} {F : Nat → Mk} (P : List (List UInt8)) (h : vmB c n F = false) : fgN c n F P = 0 ∧ fgE c n F P = 1 := by
  unfold fgN fgE
  rw [h, if_neg (fun g => by cases g.1), if_neg (by decide)]
  exact ⟨rfl, rfl⟩
theorem fg_state {c : Nat → Int} {n : Nat} {F : Nat → Mk} {P : List (List UInt8)} (h : vmB c n F = true) (hl : allO c n F P ≠ []) : fgN c n F P = 0 ∧ fgE c n F P = 4 := by
  unfold fgN fgE
  rw [h, if_neg (fun g => hl g.2), if_pos rfl, if_neg hl]
  exact ⟨rfl, rfl⟩
theorem fg_some {c : Nat → Int} {n k : Nat} {F : Nat → Mk} {P : List (List UInt8)} (h : vmB c n F = true) (hl : allO c n F P = []) (hi : fgI c n F P = some k) : fgN c n F P = (k : Int) ∧ fgE c n F P = 0 := by
  unfold fgN fgE
  rw [h, hl, hi, if_pos ⟨rfl, rfl⟩, if_pos rfl, if_pos rfl]
  exact ⟨rfl, rfl⟩
theorem fg_none {c : Nat → Int} {n : Nat} {F : Nat → Mk} {P : List (List UInt8)} (h : vmB c n F = true) (hl : allO c n F P = []) (hi : fgI c n F P = none) : fgN c n F P = 0 ∧ fgE c n F P = 6 := by
  unfold fgN fgE
  rw [h, hl, hi, if_pos ⟨rfl, rfl⟩, if_pos rfl, if_pos rfl]
  exact ⟨rfl, rfl⟩
theorem vmB_setG (c : Nat → Int) (n : Nat) (F : Nat → Mk) (G : Nat → Value) : vmB c n (setV F G) = vmB c n F := rfl
theorem fgI_set (c : Nat → Int) (n : Nat) (F : Nat → Mk) (G : Nat → Value) (P : List (List UInt8)) : fgI c n (setV F G) P = fgI c n F P := by
  unfold fgI
  congr 1
  funext i
  rw [allO_sk]
theorem fgN_set (c : Nat → Int) (n : Nat) (F : Nat → Mk) (G : Nat → Value) (P : List (List UInt8)) : fgN c n (setV F G) P = fgN c n F P := by
  unfold fgN
  rw [fgI_set, allO_set, vmB_setG]
theorem fgE_set (c : Nat → Int) (n : Nat) (F : Nat → Mk) (G : Nat → Value) (P : List (List UInt8)) : fgE c n (setV F G) P = fgE c n F P := by
  unfold fgE
  rw [fgI_set, allO_set, vmB_setG]
theorem owns_posW {w : World} {base n s : Nat} {e : TypeId} {v : Value} {xs : List Value} (h : w.ownsRow base e s v n xs) (h0 : 0 < n) : ∃ g cap, v = .slice (some ⟨g, 0, none⟩) n cap ∧ base ≤ g ∧ g < w.heap.size := by
  obtain ⟨hl, ⟨rfl, rfl⟩ | ⟨g, cap, cur, rfl, hb, hg, -⟩⟩ := h
  · omega
  · exact ⟨g, cap, rfl, hb, (Array.getElem?_eq_some_iff.1 hg).1⟩
set_option maxHeartbeats 8000000 in
theorem iForgedMark_any (c : Nat → Int) (hfc : FitSheet c) (v : Value) (n b : Nat) (F : Nat → Mk) (hn : n ≤ 1048576) (hF : ∀ k, k < n → MkIn (F k) ∧ (F k).n ≤ 1048576) (pv : Value) (bp : Nat) (P : List (List UInt8)) (hP : P.length ≤ 1048576) (w : World) (h : OwnM w b v n F) (hpv : OwnT w bp pv P) (hmx : MxW w) :
    Calls Tryz.prog 19 #[.agg (kc sk 266 c), v, pv] w fun e w' => e = .returned (.tuple #[.int .i64 (fgN c n F P), .int .i64 (fgE c n F P)]) ∧ Below w.heap.size w w' := by
  have HX0 := fun w h1 => iValidMarks_any c hfc v n b F hn hF w h1
  have HH := Lib.hid h
  have HPV := Lib.hid hpv
  have HMX := Lib.hid hmx
  rcases Bool.eq_false_or_eq_true (vmB c n F) with hv | hv
  case inr =>
    rw [hv] at HX0
    rw [(fg_bad P hv).1, (fg_bad P hv).2]
    have HX := Lib.hid HX0
    clear h hpv hF hv HX0
    go_enter Tryz.func19, Tryz.ntmps19
    go_wp2_with (go_at_call 34; refine (HX.out _ (HH.out.below (by repeat' (first | with_reducible exact Below.refl _ _ | with_reducible assumption | with_reducible refine Below.drew ?_ | with_reducible refine Below.drewN ?_ _ | with_reducible refine Below.alloc ?_ ?_ _ | with_reducible refine Below.setCell ?_ ?_ _ | with_reducible refine Below.setRow ?_ ?_ _ | with_reducible refine below_step (by assumption) ?_ ?_ | (show (_ : Nat) ≤ _; first | omega | (simp <;> omega)))) (Nat.le_refl _))).mono ?_; rintro e w1 ⟨rfl, hb1⟩; have r1 := keep_rowA hb1; have f1 := keep_frA hb1; have s1 := hb1.size; (try simp only [World.size_alloc, World.size_setCell, setRow_size, World.size_drew, size_drewNm] at r1 f1 s1))
    refine bodyPost_ret (v := (.tuple #[.int .i64 0, .int .i64 1])) (res_tt rfl rfl rfl) rfl ⟨rfl, by repeat' (first | with_reducible exact Below.refl _ _ | with_reducible assumption | with_reducible refine Below.drew ?_ | with_reducible refine Below.drewN ?_ _ | with_reducible refine Below.alloc ?_ ?_ _ | with_reducible refine Below.setCell ?_ ?_ _ | with_reducible refine Below.setRow ?_ ?_ _ | with_reducible refine below_step (by assumption) ?_ ?_ | (show (_ : Nat) ≤ _; first | omega | (simp <;> omega)))⟩
  obtain ⟨hok, h6, hlay⟩ := vm_lay hv
  rw [hv] at HX0
  have HX := Lib.hid HX0
  have HA := Lib.hid (fun p w h1 h2 h3 h4 h5 => iAll_any p c hfc hok v n b F h6 hlay pv bp P hP 0 w (Nat.zero_le _) h1 h2 h3 h4 h5)
  have HA2 := Lib.hid (fun (k : Nat) (hk : k < n) p v2 w h1 h2 h3 h4 h5 => iAll_any p c hfc hok v2 (n - 1) 0 (skF F k) (by omega) (sk_lay hlay hk) pv bp P hP 0 w (Nat.zero_le _) h1 h2 h3 h4 h5)
  have HST := Lib.hid (fun hl => fg_state (F := F) (P := P) hv hl)
  have HSO := Lib.hid (fun hl k hi => fg_some (F := F) (P := P) (k := k) hv hl hi)
  have HNO := Lib.hid (fun hl hi => fg_none (F := F) (P := P) hv hl hi)
  obtain ⟨am, cm, rfl⟩ := h.1.len
  clear h hpv hF hv hok hlay HX0
  rcases hLL : allO c n F P with _ | ⟨m, L⟩
  case cons =>
    have hne : allO c n F P ≠ [] := by rw [hLL]; exact List.cons_ne_nil _ _
    rw [(HST.out hne).1, (HST.out hne).2]
    rw [hLL] at HA
    have hl1 : (0 : Int) < ((m :: L).length : Int) := by first | (simp; done) | (simp; omega)
    have hl2 : 0 < (m :: L).length := by simp
    clear hLL hne HA2 HST HSO HNO
    generalize m :: L = L2 at *
    go_enter Tryz.func19, Tryz.ntmps19
    go_wp2_with (first | (go_at_call 34; refine (HX.out _ (HH.out.below (by repeat' (first | with_reducible exact Below.refl _ _ | with_reducible assumption | with_reducible refine Below.drew ?_ | with_reducible refine Below.drewN ?_ _ | with_reducible refine Below.alloc ?_ ?_ _ | with_reducible refine Below.setCell ?_ ?_ _ | with_reducible refine Below.setRow ?_ ?_ _ | with_reducible refine below_step (by assumption) ?_ ?_ | (show (_ : Nat) ≤ _; first | omega | (simp <;> omega)))) (Nat.le_refl _))).mono ?_; rintro e w1 ⟨rfl, hb1⟩; have r1 := keep_rowA hb1; have f1 := keep_frA hb1; have s1 := hb1.size; (try simp only [World.size_alloc, World.size_setCell, setRow_size, World.size_drew, size_drewNm] at r1 f1 s1)) | (go_at_call 36; refine (HA.out w.heap.size _ (by (go_simp <;> (intros; omega))) (by first | omega | (simp <;> omega)) (HH.out.below (by repeat' (first | with_reducible exact Below.refl _ _ | with_reducible assumption | with_reducible refine Below.drew ?_ | with_reducible refine Below.drewN ?_ _ | with_reducible refine Below.alloc ?_ ?_ _ | with_reducible refine Below.setCell ?_ ?_ _ | with_reducible refine Below.setRow ?_ ?_ _ | with_reducible refine below_step (by assumption) ?_ ?_ | (show (_ : Nat) ≤ _; first | omega | (simp <;> omega)))) (Nat.le_refl _)) (HPV.out.below (by repeat' (first | with_reducible exact Below.refl _ _ | with_reducible assumption | with_reducible refine Below.drew ?_ | with_reducible refine Below.drewN ?_ _ | with_reducible refine Below.alloc ?_ ?_ _ | with_reducible refine Below.setCell ?_ ?_ _ | with_reducible refine Below.setRow ?_ ?_ _ | with_reducible refine below_step (by assumption) ?_ ?_ | (show (_ : Nat) ≤ _; first | omega | (simp <;> omega)))) (Nat.le_refl _)) (HMX.out.below (by repeat' (first | with_reducible exact Below.refl _ _ | with_reducible assumption | with_reducible refine Below.drew ?_ | with_reducible refine Below.drewN ?_ _ | with_reducible refine Below.alloc ?_ ?_ _ | with_reducible refine Below.setCell ?_ ?_ _ | with_reducible refine Below.setRow ?_ ?_ _ | with_reducible refine below_step (by assumption) ?_ ?_ | (show (_ : Nat) ≤ _; first | omega | (simp <;> omega)))))).mono ?_; rintro e w2 ⟨v2, rfl, hall, hb2⟩; obtain ⟨ar, cr, rfl⟩ := hall.len; clear hall; have r_hb2 := keep_rowA hb2; have f_hb2 := keep_frA hb2; have s_hb2 := hb2.size; (try simp only [World.size_alloc, World.size_setCell, setRow_size, World.size_drew, size_drewNm] at r_hb2 f_hb2 s_hb2)))
    refine bodyPost_ret (v := (.tuple #[.int .i64 0, .int .i64 4])) (res_tt rfl rfl rfl) rfl ⟨rfl, by repeat' (first | with_reducible exact Below.refl _ _ | with_reducible assumption | with_reducible refine Below.drew ?_ | with_reducible refine Below.drewN ?_ _ | with_reducible refine Below.alloc ?_ ?_ _ | with_reducible refine Below.setCell ?_ ?_ _ | with_reducible refine Below.setRow ?_ ?_ _ | with_reducible refine below_step (by assumption) ?_ ?_ | (show (_ : Nat) ≤ _; first | omega | (simp <;> omega)))⟩
  rw [hLL] at HA
  have HHIT := Lib.hid (fun k hk hno h => HSO.out hLL k (fg_hit (c := c) (n := n) (F := F) (P := P) (k := k) hk hno h))
  have HMISS := Lib.hid (fun hno => HNO.out hLL (fg_miss (c := c) (n := n) (F := F) (P := P) hno))
  clear hLL HST HSO HNO
  go_enter Tryz.func19, Tryz.ntmps19
  go_wp2_with (first | (go_at_call 34; refine (HX.out _ (HH.out.below (by repeat' (first | with_reducible exact Below.refl _ _ | with_reducible assumption | with_reducible refine Below.drew ?_ | with_reducible refine Below.drewN ?_ _ | with_reducible refine Below.alloc ?_ ?_ _ | with_reducible refine Below.setCell ?_ ?_ _ | with_reducible refine Below.setRow ?_ ?_ _ | with_reducible refine below_step (by assumption) ?_ ?_ | (show (_ : Nat) ≤ _; first | omega | (simp <;> omega)))) (Nat.le_refl _))).mono ?_; rintro e w1 ⟨rfl, hb1⟩; have r1 := keep_rowA hb1; have f1 := keep_frA hb1; have s1 := hb1.size; (try simp only [World.size_alloc, World.size_setCell, setRow_size, World.size_drew, size_drewNm] at r1 f1 s1)) | (go_at_call 36; refine (HA.out w.heap.size _ (by (go_simp <;> (intros; omega))) (by first | omega | (simp <;> omega)) (HH.out.below (by repeat' (first | with_reducible exact Below.refl _ _ | with_reducible assumption | with_reducible refine Below.drew ?_ | with_reducible refine Below.drewN ?_ _ | with_reducible refine Below.alloc ?_ ?_ _ | with_reducible refine Below.setCell ?_ ?_ _ | with_reducible refine Below.setRow ?_ ?_ _ | with_reducible refine below_step (by assumption) ?_ ?_ | (show (_ : Nat) ≤ _; first | omega | (simp <;> omega)))) (Nat.le_refl _)) (HPV.out.below (by repeat' (first | with_reducible exact Below.refl _ _ | with_reducible assumption | with_reducible refine Below.drew ?_ | with_reducible refine Below.drewN ?_ _ | with_reducible refine Below.alloc ?_ ?_ _ | with_reducible refine Below.setCell ?_ ?_ _ | with_reducible refine Below.setRow ?_ ?_ _ | with_reducible refine below_step (by assumption) ?_ ?_ | (show (_ : Nat) ≤ _; first | omega | (simp <;> omega)))) (Nat.le_refl _)) (HMX.out.below (by repeat' (first | with_reducible exact Below.refl _ _ | with_reducible assumption | with_reducible refine Below.drew ?_ | with_reducible refine Below.drewN ?_ _ | with_reducible refine Below.alloc ?_ ?_ _ | with_reducible refine Below.setCell ?_ ?_ _ | with_reducible refine Below.setRow ?_ ?_ _ | with_reducible refine below_step (by assumption) ?_ ?_ | (show (_ : Nat) ≤ _; first | omega | (simp <;> omega)))))).mono ?_; rintro e w2 ⟨v2, rfl, hall, hb2⟩; obtain ⟨ar, cr, rfl⟩ := hall.len; clear hall; have r_hb2 := keep_rowA hb2; have f_hb2 := keep_frA hb2; have s_hb2 := hb2.size; (try simp only [World.size_alloc, World.size_setCell, setRow_size, World.size_drew, size_drewNm] at r_hb2 f_hb2 s_hb2)))
  go_loopw [23] (fun i wr => ∃ k : Nat, k ≤ n ∧ i = .int .i64 k ∧ Below w.heap.size w wr ∧ w.heap.size + 1 ≤ wr.heap.size ∧ rowOf wr w.heap.size = kc sk 266 c ∧ ∀ j, j < k → allO c (n - 1) (skF F j) P = []) (fun i wr => n + 1 - (intOf i).toNat)
  case atStart => exact ⟨0, by omega, rfl, by repeat' (first | with_reducible exact Below.refl _ _ | with_reducible assumption | with_reducible refine Below.drew ?_ | with_reducible refine Below.drewN ?_ _ | with_reducible refine Below.alloc ?_ ?_ _ | with_reducible refine Below.setCell ?_ ?_ _ | with_reducible refine Below.setRow ?_ ?_ _ | with_reducible refine below_step (by assumption) ?_ ?_ | (show (_ : Nat) ≤ _; first | omega | (simp <;> omega))), by first | omega | (simp <;> omega), by (go_simp <;> (intros; omega)), fun j hj => absurd hj (by omega)⟩
  case round =>
    obtain ⟨k, hk, rfl, hb, hszr, hrow, hno⟩ := hrel
    have HNO2 := Lib.hid hno
    have hszb := hb.size
    clear hno
    by_cases hlt : k < n
    · have hlt2 : (k : Int) < (n : Int) := by omega
      have hw1 : IntKind.i64.wrap ((k : Int) + 1) = (k : Int) + 1 := IntWalk.i64_in _ (by omega)
      have HB2 := Lib.hid (HA2.out k hlt)
      rcases hSK : allO c (n - 1) (skF F k) P with _ | ⟨m, L⟩
      · rw [hSK] at HB2
        have HN := Lib.hid (show ∀ j, j < k + 1 → allO c (n - 1) (skF F j) P = [] from fun j hj => by
          rcases Nat.lt_succ_iff_lt_or_eq.1 hj with h | rfl
          · exact HNO2.out j h
          · exact hSK)
        clear hSK
        go_wp2_with (first | (go_at_call 46; refine (clone_marks _ n b F (by omega) hn _ (HH.out.below (by repeat' (first | with_reducible exact Below.refl _ _ | with_reducible assumption | with_reducible refine Below.drew ?_ | with_reducible refine Below.drewN ?_ _ | with_reducible refine Below.alloc ?_ ?_ _ | with_reducible refine Below.setCell ?_ ?_ _ | with_reducible refine Below.setRow ?_ ?_ _ | with_reducible refine below_step (by assumption) ?_ ?_ | (show (_ : Nat) ≤ _; first | omega | (simp <;> omega)))) (Nat.le_refl _))).mono ?_; rintro e w3 ⟨v3, rfl, hown3, hb3⟩; obtain ⟨g3, c3, rfl, hg31, hg32⟩ := owns_posW hown3 (by omega); have hs3 := hb3.size; have HO3 := Lib.hid hown3; clear hown3; have r_hb3 := keep_rowA hb3; have f_hb3 := keep_frA hb3; have s_hb3 := hb3.size; (try simp only [World.size_alloc, World.size_setCell, setRow_size, World.size_drew, size_drewNm] at r_hb3 f_hb3 s_hb3)) | (go_at_call 45; refine (delete_marks g3 n k c3 _ F hlt (by omega) _ HO3.out (mk_one HH.out)).mono ?_; rintro e w4 ⟨rfl, hown4, hb4⟩; have HO4 := Lib.hid (own_sk HH.out hlt (by repeat' (first | with_reducible exact Below.refl _ _ | with_reducible assumption | with_reducible refine Below.drew ?_ | with_reducible refine Below.drewN ?_ _ | with_reducible refine Below.alloc ?_ ?_ _ | with_reducible refine Below.setCell ?_ ?_ _ | with_reducible refine Below.setRow ?_ ?_ _ | with_reducible refine below_step (by assumption) ?_ ?_ | (show (_ : Nat) ≤ _; first | omega | (simp <;> omega)))) hown4); clear hown4; have hs4 := hb4.size; have r_hb4 := keep_rowA hb4; have f_hb4 := keep_frA hb4; have s_hb4 := hb4.size; (try simp only [World.size_alloc, World.size_setCell, setRow_size, World.size_drew, size_drewNm] at r_hb4 f_hb4 s_hb4)) | (go_at_call 36; refine (HB2.out w.heap.size _ _ (by (go_simp <;> (intros; omega))) (by first | omega | (simp <;> omega)) (HO4.out.below (by repeat' (first | with_reducible exact Below.refl _ _ | with_reducible assumption | with_reducible refine Below.drew ?_ | with_reducible refine Below.drewN ?_ _ | with_reducible refine Below.alloc ?_ ?_ _ | with_reducible refine Below.setCell ?_ ?_ _ | with_reducible refine Below.setRow ?_ ?_ _ | with_reducible refine below_step (by assumption) ?_ ?_ | (show (_ : Nat) ≤ _; first | omega | (simp <;> omega)))) (Nat.le_refl _)) (HPV.out.below (by repeat' (first | with_reducible exact Below.refl _ _ | with_reducible assumption | with_reducible refine Below.drew ?_ | with_reducible refine Below.drewN ?_ _ | with_reducible refine Below.alloc ?_ ?_ _ | with_reducible refine Below.setCell ?_ ?_ _ | with_reducible refine Below.setRow ?_ ?_ _ | with_reducible refine below_step (by assumption) ?_ ?_ | (show (_ : Nat) ≤ _; first | omega | (simp <;> omega)))) (Nat.le_refl _)) (HMX.out.below (by repeat' (first | with_reducible exact Below.refl _ _ | with_reducible assumption | with_reducible refine Below.drew ?_ | with_reducible refine Below.drewN ?_ _ | with_reducible refine Below.alloc ?_ ?_ _ | with_reducible refine Below.setCell ?_ ?_ _ | with_reducible refine Below.setRow ?_ ?_ _ | with_reducible refine below_step (by assumption) ?_ ?_ | (show (_ : Nat) ≤ _; first | omega | (simp <;> omega)))))).mono ?_; rintro e w5 ⟨v5, rfl, hall, hb5⟩; obtain ⟨ar5, cr5, rfl⟩ := hall.len; clear hall; have r_hb5 := keep_rowA hb5; have f_hb5 := keep_frA hb5; have s_hb5 := hb5.size; (try simp only [World.size_alloc, World.size_setCell, setRow_size, World.size_drew, size_drewNm] at r_hb5 f_hb5 s_hb5)))
        go_roundw
        case rel => first | exact ⟨k + 1, by omega, by go_num, by repeat' (first | with_reducible exact Below.refl _ _ | with_reducible assumption | with_reducible refine Below.drew ?_ | with_reducible refine Below.drewN ?_ _ | with_reducible refine Below.alloc ?_ ?_ _ | with_reducible refine Below.setCell ?_ ?_ _ | with_reducible refine Below.setRow ?_ ?_ _ | with_reducible refine below_step (by assumption) ?_ ?_ | (show (_ : Nat) ≤ _; first | omega | (simp <;> omega))), by first | omega | (simp <;> omega), by (go_simp <;> (intros; omega)), HN.out⟩ | ((repeat (with_reducible apply Exists.intro)); refine And.intro ?_ ?_; rotate_left; (focus ((repeat' (with_reducible apply And.intro)) <;> rfl)); exact ⟨k + 1, by omega, by go_num, by repeat' (first | with_reducible exact Below.refl _ _ | with_reducible assumption | with_reducible refine Below.drew ?_ | with_reducible refine Below.drewN ?_ _ | with_reducible refine Below.alloc ?_ ?_ _ | with_reducible refine Below.setCell ?_ ?_ _ | with_reducible refine Below.setRow ?_ ?_ _ | with_reducible refine below_step (by assumption) ?_ ?_ | (show (_ : Nat) ≤ _; first | omega | (simp <;> omega))), by first | omega | (simp <;> omega), by (go_simp <;> (intros; omega)), HN.out⟩)
        case measure => simp [intOf]; omega
      · have HV := Lib.hid (HHIT.out k hlt HNO2.out (by rw [hSK]; exact List.cons_ne_nil _ _))
        rw [hSK] at HB2
        have hl1 : (0 : Int) < ((m :: L).length : Int) := by first | (simp; done) | (simp; omega)
        have hl2 : 0 < (m :: L).length := by simp
        clear hSK
        generalize m :: L = L2 at *
        go_wp2_with (first | (go_at_call 46; refine (clone_marks _ n b F (by omega) hn _ (HH.out.below (by repeat' (first | with_reducible exact Below.refl _ _ | with_reducible assumption | with_reducible refine Below.drew ?_ | with_reducible refine Below.drewN ?_ _ | with_reducible refine Below.alloc ?_ ?_ _ | with_reducible refine Below.setCell ?_ ?_ _ | with_reducible refine Below.setRow ?_ ?_ _ | with_reducible refine below_step (by assumption) ?_ ?_ | (show (_ : Nat) ≤ _; first | omega | (simp <;> omega)))) (Nat.le_refl _))).mono ?_; rintro e w3 ⟨v3, rfl, hown3, hb3⟩; obtain ⟨g3, c3, rfl, hg31, hg32⟩ := owns_posW hown3 (by omega); have hs3 := hb3.size; have HO3 := Lib.hid hown3; clear hown3; have r_hb3 := keep_rowA hb3; have f_hb3 := keep_frA hb3; have s_hb3 := hb3.size; (try simp only [World.size_alloc, World.size_setCell, setRow_size, World.size_drew, size_drewNm] at r_hb3 f_hb3 s_hb3)) | (go_at_call 45; refine (delete_marks g3 n k c3 _ F hlt (by omega) _ HO3.out (mk_one HH.out)).mono ?_; rintro e w4 ⟨rfl, hown4, hb4⟩; have HO4 := Lib.hid (own_sk HH.out hlt (by repeat' (first | with_reducible exact Below.refl _ _ | with_reducible assumption | with_reducible refine Below.drew ?_ | with_reducible refine Below.drewN ?_ _ | with_reducible refine Below.alloc ?_ ?_ _ | with_reducible refine Below.setCell ?_ ?_ _ | with_reducible refine Below.setRow ?_ ?_ _ | with_reducible refine below_step (by assumption) ?_ ?_ | (show (_ : Nat) ≤ _; first | omega | (simp <;> omega)))) hown4); clear hown4; have hs4 := hb4.size; have r_hb4 := keep_rowA hb4; have f_hb4 := keep_frA hb4; have s_hb4 := hb4.size; (try simp only [World.size_alloc, World.size_setCell, setRow_size, World.size_drew, size_drewNm] at r_hb4 f_hb4 s_hb4)) | (go_at_call 36; refine (HB2.out w.heap.size _ _ (by (go_simp <;> (intros; omega))) (by first | omega | (simp <;> omega)) (HO4.out.below (by repeat' (first | with_reducible exact Below.refl _ _ | with_reducible assumption | with_reducible refine Below.drew ?_ | with_reducible refine Below.drewN ?_ _ | with_reducible refine Below.alloc ?_ ?_ _ | with_reducible refine Below.setCell ?_ ?_ _ | with_reducible refine Below.setRow ?_ ?_ _ | with_reducible refine below_step (by assumption) ?_ ?_ | (show (_ : Nat) ≤ _; first | omega | (simp <;> omega)))) (Nat.le_refl _)) (HPV.out.below (by repeat' (first | with_reducible exact Below.refl _ _ | with_reducible assumption | with_reducible refine Below.drew ?_ | with_reducible refine Below.drewN ?_ _ | with_reducible refine Below.alloc ?_ ?_ _ | with_reducible refine Below.setCell ?_ ?_ _ | with_reducible refine Below.setRow ?_ ?_ _ | with_reducible refine below_step (by assumption) ?_ ?_ | (show (_ : Nat) ≤ _; first | omega | (simp <;> omega)))) (Nat.le_refl _)) (HMX.out.below (by repeat' (first | with_reducible exact Below.refl _ _ | with_reducible assumption | with_reducible refine Below.drew ?_ | with_reducible refine Below.drewN ?_ _ | with_reducible refine Below.alloc ?_ ?_ _ | with_reducible refine Below.setCell ?_ ?_ _ | with_reducible refine Below.setRow ?_ ?_ _ | with_reducible refine below_step (by assumption) ?_ ?_ | (show (_ : Nat) ≤ _; first | omega | (simp <;> omega)))))).mono ?_; rintro e w5 ⟨v5, rfl, hall, hb5⟩; obtain ⟨ar5, cr5, rfl⟩ := hall.len; clear hall; have r_hb5 := keep_rowA hb5; have f_hb5 := keep_frA hb5; have s_hb5 := hb5.size; (try simp only [World.size_alloc, World.size_setCell, setRow_size, World.size_drew, size_drewNm] at r_hb5 f_hb5 s_hb5)))
        refine bodyPost_ret (v := .tuple #[.int .i64 (k : Int), .int .i64 0]) (res_tt rfl rfl rfl) rfl ⟨by rw [HV.out.1, HV.out.2], by repeat' (first | with_reducible exact Below.refl _ _ | with_reducible assumption | with_reducible refine Below.drew ?_ | with_reducible refine Below.drewN ?_ _ | with_reducible refine Below.alloc ?_ ?_ _ | with_reducible refine Below.setCell ?_ ?_ _ | with_reducible refine Below.setRow ?_ ?_ _ | with_reducible refine below_step (by assumption) ?_ ?_ | (show (_ : Nat) ≤ _; first | omega | (simp <;> omega)))⟩
    · have hke : k = n := by omega
      subst hke
      have HV := Lib.hid (HMISS.out (fun j hj => HNO2.out j hj))
      go_wp2
      refine bodyPost_ret (v := .tuple #[.int .i64 0, .int .i64 6]) (res_tt rfl rfl rfl) rfl ⟨by rw [HV.out.1, HV.out.2], by repeat' (first | with_reducible exact Below.refl _ _ | with_reducible assumption | with_reducible refine Below.drew ?_ | with_reducible refine Below.drewN ?_ _ | with_reducible refine Below.alloc ?_ ?_ _ | with_reducible refine Below.setCell ?_ ?_ _ | with_reducible refine Below.setRow ?_ ?_ _ | with_reducible refine below_step (by assumption) ?_ ?_ | (show (_ : Nat) ≤ _; first | omega | (simp <;> omega)))⟩
set_option maxHeartbeats 8000000 in
theorem sForgedMark_any (c : Nat → Int) (hfc : FitSheet c) (v : Value) (n b : Nat) (F : Nat → Mk) (hn : n ≤ 1048576) (hF : ∀ k, k < n → MkIn (F k) ∧ (F k).n ≤ 1048576) (pv : Value) (bp : Nat) (P : List (List UInt8)) (hP : P.length ≤ 1048576) (w : World) (h : OwnM w b v n F) (hpv : OwnT w bp pv P) (hvg : ∃ g, v = .slice (some ⟨g, 0, none⟩) n n) :
    Calls Tryz.prog 18 #[.agg (kc sk 266 c), v, pv] w fun e w' => e = .returned (.tuple #[.int .i64 (fgN c n F P), .int .i64 (fgE c n F P)]) ∧ Below w.heap.size w w' := by
  have HX0 := fun p w h1 h2 h3 => l06Marks_any p c hfc v n b F hn hF w h1 h2 h3
  have HH := Lib.hid h
  have HPV := Lib.hid hpv
  have HVG := Lib.hid hvg
  clear hvg
  rcases Bool.eq_false_or_eq_true (vmB c n F) with hv | hv
  case inr =>
    rw [hv] at HX0
    rw [(fg_bad P hv).1, (fg_bad P hv).2]
    have HX := Lib.hid HX0
    clear h hpv hF hv HX0
    go_enter Tryz.func18, Tryz.ntmps18
    go_wp2_with (go_at_call 28; refine (HX.out w.heap.size _ (by (go_simp <;> (intros; omega))) (by first | omega | (simp <;> omega)) (HH.out.below (by repeat' (first | with_reducible exact Below.refl _ _ | with_reducible assumption | with_reducible refine Below.drew ?_ | with_reducible refine Below.drewN ?_ _ | with_reducible refine Below.alloc ?_ ?_ _ | with_reducible refine Below.setCell ?_ ?_ _ | with_reducible refine Below.setRow ?_ ?_ _ | with_reducible refine below_step (by assumption) ?_ ?_ | (show (_ : Nat) ≤ _; first | omega | (simp <;> omega)))) (Nat.le_refl _))).mono ?_; rintro e w1 ⟨rfl, hb1⟩; have r1 := keep_rowA hb1; have f1 := keep_frA hb1; have s1 := hb1.size; (try simp only [World.size_alloc, World.size_setCell, setRow_size, World.size_drew, size_drewNm] at r1 f1 s1))
    refine bodyPost_ret (v := (.tuple #[.int .i64 0, .int .i64 1])) (res_tt rfl rfl rfl) rfl ⟨rfl, by repeat' (first | with_reducible exact Below.refl _ _ | with_reducible assumption | with_reducible refine Below.drew ?_ | with_reducible refine Below.drewN ?_ _ | with_reducible refine Below.alloc ?_ ?_ _ | with_reducible refine Below.setCell ?_ ?_ _ | with_reducible refine Below.setRow ?_ ?_ _ | with_reducible refine below_step (by assumption) ?_ ?_ | (show (_ : Nat) ≤ _; first | omega | (simp <;> omega)))⟩
  obtain ⟨hok, h6, hlay⟩ := vm_lay hv
  rw [hv] at HX0
  have HX := Lib.hid HX0
  have HA := Lib.hid (fun p lv bl w h1 h2 h3 h4 h5 => sAll_any p c hfc hok v n b F h6 hlay pv bp P hP lv bl 0 w (Nat.zero_le _) (Nat.zero_le _) h1 h2 h3 h4 h5)
  have HA2 := Lib.hid (fun (k : Nat) (hk : k < n) p v2 lv bl w h1 h2 h3 h4 h5 => sAll_any p c hfc hok v2 (n - 1) 0 (skF F k) (by omega) (sk_lay hlay hk) pv bp P hP lv bl 0 w (Nat.zero_le _) (Nat.zero_le _) h1 h2 h3 h4 h5)
  have HST := Lib.hid (fun hl => fg_state (F := F) (P := P) hv hl)
  have HSO := Lib.hid (fun hl k hi => fg_some (F := F) (P := P) (k := k) hv hl hi)
  have HNO := Lib.hid (fun hl hi => fg_none (F := F) (P := P) hv hl hi)
  obtain ⟨am, cm, rfl⟩ := h.1.len
  clear h hpv hF hv hok hlay HX0
  rcases hLL : allO c n F P with _ | ⟨m, L⟩
  case cons =>
    have hne : allO c n F P ≠ [] := by rw [hLL]; exact List.cons_ne_nil _ _
    rw [(HST.out hne).1, (HST.out hne).2]
    rw [hLL] at HA
    have hl1 : (0 : Int) < ((m :: L).length : Int) := by first | (simp; done) | (simp; omega)
    have hl2 : 0 < (m :: L).length := by simp
    clear hLL hne HA2 HST HSO HNO
    generalize m :: L = L2 at *
    go_enter Tryz.func18, Tryz.ntmps18
    go_wp2_with (first | (go_at_call 28; refine (HX.out w.heap.size _ (by (go_simp <;> (intros; omega))) (by first | omega | (simp <;> omega)) (HH.out.below (by repeat' (first | with_reducible exact Below.refl _ _ | with_reducible assumption | with_reducible refine Below.drew ?_ | with_reducible refine Below.drewN ?_ _ | with_reducible refine Below.alloc ?_ ?_ _ | with_reducible refine Below.setCell ?_ ?_ _ | with_reducible refine Below.setRow ?_ ?_ _ | with_reducible refine below_step (by assumption) ?_ ?_ | (show (_ : Nat) ≤ _; first | omega | (simp <;> omega)))) (Nat.le_refl _))).mono ?_; rintro e w1 ⟨rfl, hb1⟩; have r1 := keep_rowA hb1; have f1 := keep_frA hb1; have s1 := hb1.size; (try simp only [World.size_alloc, World.size_setCell, setRow_size, World.size_drew, size_drewNm] at r1 f1 s1)) | (go_at_call 29; refine (HA.out w.heap.size _ w1.heap.size _ (by (go_simp <;> (intros; omega))) (by first | omega | (simp <;> omega)) (HH.out.below (by repeat' (first | with_reducible exact Below.refl _ _ | with_reducible assumption | with_reducible refine Below.drew ?_ | with_reducible refine Below.drewN ?_ _ | with_reducible refine Below.alloc ?_ ?_ _ | with_reducible refine Below.setCell ?_ ?_ _ | with_reducible refine Below.setRow ?_ ?_ _ | with_reducible refine below_step (by assumption) ?_ ?_ | (show (_ : Nat) ≤ _; first | omega | (simp <;> omega)))) (Nat.le_refl _)) (HPV.out.below (by repeat' (first | with_reducible exact Below.refl _ _ | with_reducible assumption | with_reducible refine Below.drew ?_ | with_reducible refine Below.drewN ?_ _ | with_reducible refine Below.alloc ?_ ?_ _ | with_reducible refine Below.setCell ?_ ?_ _ | with_reducible refine Below.setRow ?_ ?_ _ | with_reducible refine below_step (by assumption) ?_ ?_ | (show (_ : Nat) ≤ _; first | omega | (simp <;> omega)))) (Nat.le_refl _)) (own_empty_i64 _ _)).mono ?_; rintro e w2 ⟨v2, rfl, hall, hb2⟩; obtain ⟨ar, cr, rfl⟩ := hall.len; clear hall; have r_hb2 := keep_rowA hb2; have f_hb2 := keep_frA hb2; have s_hb2 := hb2.size; (try simp only [World.size_alloc, World.size_setCell, setRow_size, World.size_drew, size_drewNm] at r_hb2 f_hb2 s_hb2)))
    refine bodyPost_ret (v := (.tuple #[.int .i64 0, .int .i64 4])) (res_tt rfl rfl rfl) rfl ⟨rfl, by repeat' (first | with_reducible exact Below.refl _ _ | with_reducible assumption | with_reducible refine Below.drew ?_ | with_reducible refine Below.drewN ?_ _ | with_reducible refine Below.alloc ?_ ?_ _ | with_reducible refine Below.setCell ?_ ?_ _ | with_reducible refine Below.setRow ?_ ?_ _ | with_reducible refine below_step (by assumption) ?_ ?_ | (show (_ : Nat) ≤ _; first | omega | (simp <;> omega)))⟩
  rw [hLL] at HA
  have HHIT := Lib.hid (fun k hk hno h => HSO.out hLL k (fg_hit (c := c) (n := n) (F := F) (P := P) (k := k) hk hno h))
  have HMISS := Lib.hid (fun hno => HNO.out hLL (fg_miss (c := c) (n := n) (F := F) (P := P) hno))
  clear hLL HST HSO HNO
  go_enter Tryz.func18, Tryz.ntmps18
  go_wp2_with (first | (go_at_call 28; refine (HX.out w.heap.size _ (by (go_simp <;> (intros; omega))) (by first | omega | (simp <;> omega)) (HH.out.below (by repeat' (first | with_reducible exact Below.refl _ _ | with_reducible assumption | with_reducible refine Below.drew ?_ | with_reducible refine Below.drewN ?_ _ | with_reducible refine Below.alloc ?_ ?_ _ | with_reducible refine Below.setCell ?_ ?_ _ | with_reducible refine Below.setRow ?_ ?_ _ | with_reducible refine below_step (by assumption) ?_ ?_ | (show (_ : Nat) ≤ _; first | omega | (simp <;> omega)))) (Nat.le_refl _))).mono ?_; rintro e w1 ⟨rfl, hb1⟩; have r1 := keep_rowA hb1; have f1 := keep_frA hb1; have s1 := hb1.size; (try simp only [World.size_alloc, World.size_setCell, setRow_size, World.size_drew, size_drewNm] at r1 f1 s1)) | (go_at_call 29; refine (HA.out w.heap.size _ w1.heap.size _ (by (go_simp <;> (intros; omega))) (by first | omega | (simp <;> omega)) (HH.out.below (by repeat' (first | with_reducible exact Below.refl _ _ | with_reducible assumption | with_reducible refine Below.drew ?_ | with_reducible refine Below.drewN ?_ _ | with_reducible refine Below.alloc ?_ ?_ _ | with_reducible refine Below.setCell ?_ ?_ _ | with_reducible refine Below.setRow ?_ ?_ _ | with_reducible refine below_step (by assumption) ?_ ?_ | (show (_ : Nat) ≤ _; first | omega | (simp <;> omega)))) (Nat.le_refl _)) (HPV.out.below (by repeat' (first | with_reducible exact Below.refl _ _ | with_reducible assumption | with_reducible refine Below.drew ?_ | with_reducible refine Below.drewN ?_ _ | with_reducible refine Below.alloc ?_ ?_ _ | with_reducible refine Below.setCell ?_ ?_ _ | with_reducible refine Below.setRow ?_ ?_ _ | with_reducible refine below_step (by assumption) ?_ ?_ | (show (_ : Nat) ≤ _; first | omega | (simp <;> omega)))) (Nat.le_refl _)) (own_empty_i64 _ _)).mono ?_; rintro e w2 ⟨v2, rfl, hall, hb2⟩; obtain ⟨ar, cr, rfl⟩ := hall.len; clear hall; have r_hb2 := keep_rowA hb2; have f_hb2 := keep_frA hb2; have s_hb2 := hb2.size; (try simp only [World.size_alloc, World.size_setCell, setRow_size, World.size_drew, size_drewNm] at r_hb2 f_hb2 s_hb2)))
  go_loopw [8] (fun i wr => ∃ k : Nat, k ≤ n ∧ i = .int .i64 k ∧ Below w.heap.size w wr ∧ w.heap.size + 1 ≤ wr.heap.size ∧ rowOf wr w.heap.size = kc sk 266 c ∧ ∀ j, j < k → allO c (n - 1) (skF F j) P = []) (fun i wr => n + 1 - (intOf i).toNat)
  case atStart => exact ⟨0, by omega, rfl, by repeat' (first | with_reducible exact Below.refl _ _ | with_reducible assumption | with_reducible refine Below.drew ?_ | with_reducible refine Below.drewN ?_ _ | with_reducible refine Below.alloc ?_ ?_ _ | with_reducible refine Below.setCell ?_ ?_ _ | with_reducible refine Below.setRow ?_ ?_ _ | with_reducible refine below_step (by assumption) ?_ ?_ | (show (_ : Nat) ≤ _; first | omega | (simp <;> omega))), by first | omega | (simp <;> omega), by (go_simp <;> (intros; omega)), fun j hj => absurd hj (by omega)⟩
  case round =>
    obtain ⟨k, hk, rfl, hb, hszr, hrow, hno⟩ := hrel
    have HNO2 := Lib.hid hno
    have hszb := hb.size
    clear hno
    by_cases hlt : k < n
    · have hlt2 : (k : Int) < (n : Int) := by omega
      have hw1 : IntKind.i64.wrap ((k : Int) + 1) = (k : Int) + 1 := IntWalk.i64_in _ (by omega)
      have HB2 := Lib.hid (HA2.out k hlt)
      obtain ⟨i0, z0, hi0, hz0, hs0, hb0, hc0⟩ := mark_info
      obtain ⟨g, rfl, rfl⟩ : ∃ g, am = some ⟨g, 0, none⟩ ∧ n = cm := by
        obtain ⟨g, hg⟩ := HVG.out
        simp only [Value.slice.injEq] at hg
        exact ⟨g, hg.1, hg.2.2.symm⟩
      obtain ⟨hg, hs, hfr, hcs⟩ := mk_cells HH.out (by omega)
      obtain ⟨R, hR⟩ : ∃ R, rowOf w g = R := ⟨_, rfl⟩
      rw [hR] at hcs hs
      have HO1 := Lib.hid (show ∀ u ∈ mkL F k, u.oneCell' = true from fun u hu => by
        obtain ⟨t, ht⟩ := List.getElem?_of_mem hu
        obtain ⟨ht1, rfl⟩ := mkL_get ht
        exact mk_one HH.out _ (List.mem_of_getElem? (mkL_at (F := F) (n := n) (t := t) (by omega))))
      have HO2 := Lib.hid (show ∀ u ∈ (mkL F n).drop ((k + 1) * 2), u.oneCell' = true from fun u hu => mk_one HH.out u (List.mem_of_mem_drop hu))
      have HN1 := Lib.hid (show ∀ W : World, rowOf W g = R → ∀ (j : Nat) (u : Value), (mkL F k)[j]? = some u → W.cell? ((⟨g, 0, none⟩ : Addr).add j) = some u from fun W hW j u hj => by
        obtain ⟨hj1, rfl⟩ := mkL_get hj
        rw [addr_add0, cell_row, hW]
        exact hcs j (by omega))
      obtain ⟨ad, c2, had, e2⟩ : ∃ ad c2, (ad = (⟨g, (k + 1) * 2, none⟩ : Addr) ∨ n - (k + 1) = 0) ∧ ∀ W : World, (Instr.slice 40 (.slice (some ⟨g, 0, none⟩) n n) (some (.int .i64 ((k : Int) + 1))) none none).run Tryz.prog W = .ok (.slice (some ad) (n - (k + 1)) c2) W := by
        by_cases hic : n = k + 1
        · refine ⟨⟨g, 0, none⟩, n - (k + 1), .inr (by omega), fun W => ?_⟩
          rw [run_slice_at _ _ i0 Tryz.underlying40 hi0 _ _ _ _ _ _ _ _ _ (bounds_low n n ((k : Int) + 1) (by omega)), if_pos (by omega)]
          rw [show n - ((k : Int) + 1).toNat = n - (k + 1) by omega]
        · refine ⟨⟨g, (k + 1) * 2, none⟩, n - (k + 1), .inl rfl, fun W => ?_⟩
          rw [run_slice_at _ _ i0 Tryz.underlying40 hi0 _ _ _ _ _ _ _ _ _ (bounds_low n n ((k : Int) + 1) (by omega)), if_neg (by omega), hs0]
          simp only [Option.map_some, addr_add0]
          rw [show n - ((k : Int) + 1).toNat = n - (k + 1) by omega, show ((k : Int) + 1).toNat = k + 1 by omega]
      have e1 : ∀ W : World, (Instr.slice 40 (.slice (some ⟨g, 0, none⟩) n n) none (some (.int .i64 (k : Int))) none).run Tryz.prog W = .ok (.slice (some ⟨g, 0, none⟩) k n) W := fun W => by
        rw [run_slice_at _ _ i0 Tryz.underlying40 hi0 _ _ _ _ _ _ _ _ _ (bounds_high n n (k : Int) (by omega)), if_neg (by omega)]
        simp only [Option.map_some, addr_add0]
        rw [Nat.zero_mul, Nat.sub_zero, Nat.sub_zero, Int.toNat_natCast]
      have HN2 := Lib.hid (show ∀ W : World, rowOf W g = R → ∀ (j : Nat) (u : Value), ((mkL F n).drop ((k + 1) * 2))[j]? = some u → W.cell? (ad.add j) = some u from fun W hW j u hj => by
        rw [List.getElem?_drop] at hj
        obtain ⟨hj1, rfl⟩ := mkL_get hj
        rcases had with rfl | h0
        · have : ((⟨g, (k + 1) * 2, none⟩ : Addr).add j) = ⟨g, (k + 1) * 2 + j, none⟩ := by unfold Addr.add; split <;> simp_all
          rw [this, cell_row, hW]
          exact hcs _ hj1
        · omega)
      have HI := Lib.hid (And.intro hi0 (And.intro hz0 (And.intro hs0 (And.intro hb0 hc0))))
      clear hi0 hz0 hs0 hb0 hc0 had hcs
      rcases hSK : allO c (n - 1) (skF F k) P with _ | ⟨m, L⟩
      · rw [hSK] at HB2
        have HN := Lib.hid (show ∀ j, j < k + 1 → allO c (n - 1) (skF F j) P = [] from fun j hj => by
          rcases Nat.lt_succ_iff_lt_or_eq.1 hj with h | rfl
          · exact HNO2.out j h
          · exact hSK)
        clear hSK
        go_wp2
        refine wp_world (fun wd hwd => ?_)
        have hbd : Below w.heap.size w wd := by rw [hwd]; repeat' (first | with_reducible exact Below.refl _ _ | with_reducible assumption | with_reducible refine Below.drew ?_ | with_reducible refine Below.drewN ?_ _ | with_reducible refine Below.alloc ?_ ?_ _ | with_reducible refine Below.setCell ?_ ?_ _ | with_reducible refine Below.setRow ?_ ?_ _ | with_reducible refine below_step (by assumption) ?_ ?_ | (show (_ : Nat) ≤ _; first | omega | (simp <;> omega)))
        have hGd : rowOf wd g = R := by rw [hwd, keep_row hb hg]; exact hR
        have hsd : wr.heap.size ≤ wd.heap.size := by rw [hwd]; first | omega | (simp <;> omega)
        have hrd : rowOf wd w.heap.size = kc sk 266 c := by rw [hwd]; (go_simp <;> (intros; omega))
        clear hwd
        have hBd : Below wd.heap.size wd wd := Below.refl _ _
        have hBwd : Below wd.heap.size wd wd.drew := Below.drew hBd
        (refine wp_region_held (S := fun w' => rowOf w' (g) = R) (by kernel_rfl) ?_); (simp only [World.drew_eq]); (refine wpAnyH_take (i := 1) rfl (by kernel_rfl) (by kernel_rfl) (by kernel_rfl) (fun _ _ _ h => h) (yieldsIf_move rfl rfl) (by go_simp) ?_); (try simp only [Act.put, Act.eval, List.getElem_toArray, List.getElem_cons_zero, List.getElem_cons_succ, List.setIfInBounds_toArray, List.set_cons_zero, List.set_cons_succ, Array.getD_eq_getD_getElem?, List.getElem?_toArray, List.getElem?_cons_zero, List.getElem?_cons_succ, Option.getD_some]); (refine wpAnyH_take (i := 2) rfl (by kernel_rfl) (by kernel_rfl) (by kernel_rfl) (fun _ _ _ h => h) (yieldsIf_move rfl rfl) (by go_simp) ?_); (try simp only [Act.put, Act.eval, List.getElem_toArray, List.getElem_cons_zero, List.getElem_cons_succ, List.setIfInBounds_toArray, List.set_cons_zero, List.set_cons_succ, Array.getD_eq_getD_getElem?, List.getElem?_toArray, List.getElem?_cons_zero, List.getElem?_cons_succ, Option.getD_some]); (refine wpAnyH_take (i := 5) rfl (by kernel_rfl) (by kernel_rfl) (by kernel_rfl) (fun _ _ _ h => h) (yieldsIf_move rfl rfl) (by go_simp) ?_); (try simp only [Act.put, Act.eval, List.getElem_toArray, List.getElem_cons_zero, List.getElem_cons_succ, List.setIfInBounds_toArray, List.set_cons_zero, List.set_cons_succ, Array.getD_eq_getD_getElem?, List.getElem?_toArray, List.getElem?_cons_zero, List.getElem?_cons_succ, Option.getD_some]); (refine wpAnyH_take (i := 6) rfl (by kernel_rfl) (by kernel_rfl) (by kernel_rfl) (fun _ _ _ h => h) (yieldsIf_move rfl rfl) (by go_simp) ?_); (try simp only [Act.put, Act.eval, List.getElem_toArray, List.getElem_cons_zero, List.getElem_cons_succ, List.setIfInBounds_toArray, List.set_cons_zero, List.set_cons_succ, Array.getD_eq_getD_getElem?, List.getElem?_toArray, List.getElem?_cons_zero, List.getElem?_cons_succ, Option.getD_some]); (refine wpAnyH_take (i := 3) (v := .slice (some ⟨g, 0, none⟩) k n) rfl (by kernel_rfl) (by kernel_rfl) (by kernel_rfl) (fun _ _ _ h => h) (.inl ⟨by first | (simp [Region.wanted]; done) | rfl | simp [Region.wanted, yielded], fun w _ => by unfold execOp; go_simp⟩) (by go_simp) ?_); (try simp only [Act.put, Act.eval, List.getElem_toArray, List.getElem_cons_zero, List.getElem_cons_succ, List.setIfInBounds_toArray, List.set_cons_zero, List.set_cons_succ, Array.getD_eq_getD_getElem?, List.getElem?_toArray, List.getElem?_cons_zero, List.getElem?_cons_succ, Option.getD_some]); (refine wpAnyH_take (i := 7) (v := .int .i64 ((k : Int) + 1)) rfl (by kernel_rfl) (by kernel_rfl) (by kernel_rfl) (fun _ _ _ h => h) (.inl ⟨by first | (simp [Region.wanted]; done) | rfl | simp [Region.wanted, yielded], fun w _ => by unfold execOp; go_simp⟩) (by go_simp) ?_); (try simp only [Act.put, Act.eval, List.getElem_toArray, List.getElem_cons_zero, List.getElem_cons_succ, List.setIfInBounds_toArray, List.set_cons_zero, List.set_cons_succ, Array.getD_eq_getD_getElem?, List.getElem?_toArray, List.getElem?_cons_zero, List.getElem?_cons_succ, Option.getD_some]); (refine wpAnyH_take (i := 8) (v := .slice (some ad) (n - (k + 1)) c2) rfl (by kernel_rfl) (by kernel_rfl) (by kernel_rfl) (fun _ _ _ h => h) (.inl ⟨by first | (simp [Region.wanted]; done) | rfl | simp [Region.wanted, yielded], fun w _ => by unfold execOp; go_simp⟩) (by go_simp) ?_); (try simp only [Act.put, Act.eval, List.getElem_toArray, List.getElem_cons_zero, List.getElem_cons_succ, List.setIfInBounds_toArray, List.set_cons_zero, List.set_cons_succ, Array.getD_eq_getD_getElem?, List.getElem?_toArray, List.getElem?_cons_zero, List.getElem?_cons_succ, Option.getD_some])
        refine wpAnyH_one (i := 0) (by kernel_rfl) rfl rfl ?_
        refine oper_hid (fun RR hRR => ?_)
        refine wp_buildSlice_none 40 rfl 68 i0 Tryz.underlying40 HI.out.1 (fun w1 hqw1 => ?_)
        have hBw1 : Below wd.heap.size wd w1 := by rw [hqw1]; exact Below.alloc hBwd hBwd.size _
        have hOw1 : w1.ownsRow wd.heap.size 68 2 (.slice (some ⟨wd.heap.size, 0, none⟩) 0 0) 0 [] := by rw [hqw1]; exact owns_downP (owns_emptyW _ _ _) hBwd.size
        have hGw1 : rowOf w1 g = R := (keep_row hBw1 (by omega)).trans hGd
        clear hqw1
        refine hRR _ _ ⟨hGw1, ?_⟩
        clear hRR RR
        try simp only [Act.put, Act.eval, List.getElem_toArray, List.getElem_cons_zero, List.getElem_cons_succ, List.setIfInBounds_toArray, List.set_cons_zero, List.set_cons_succ, Array.getD_eq_getD_getElem?, List.getElem?_toArray, List.getElem?_cons_zero, List.getElem?_cons_succ, Option.getD_some]
        refine wpAnyH_one (i := 4) (by kernel_rfl) rfl rfl ?_
        refine oper_hid (fun RR hRR => ?_)
        refine wp_append_own _ _ 40 rfl wd.heap.size 68 i0 z0 2 32 Tryz.underlying40 HI.out.1 HI.out.2.1 HI.out.2.2.1 HI.out.2.2.2.1 HI.out.2.2.2.2 (by decide) _ 0 [] rfl hOw1 ⟨g, 0, none⟩ k n (mkL F k) rfl (mkL_len F k) (HN1.out _ hGw1) HO1.out (by unfold maxLen; omega) (by omega) hBw1.size ?_
        intro v4 w2 hOw2 hgrw2
        rw [Nat.zero_add, List.nil_append] at hOw2
        have hBw2 : Below wd.heap.size wd w2 := below_grown hBw1 hgrw2 (owns_base hOw1) hBw1.size
        have hGw2 : rowOf w2 g = R := (keep_row hBw2 (by omega)).trans hGd
        clear hgrw2
        refine hRR _ _ ⟨hGw2, ?_⟩
        clear hRR RR
        try simp only [Act.put, Act.eval, List.getElem_toArray, List.getElem_cons_zero, List.getElem_cons_succ, List.setIfInBounds_toArray, List.set_cons_zero, List.set_cons_succ, Array.getD_eq_getD_getElem?, List.getElem?_toArray, List.getElem?_cons_zero, List.getElem?_cons_succ, Option.getD_some]
        refine wpAnyH_one (i := 9) (by kernel_rfl) rfl rfl ?_
        refine oper_hid (fun RR hRR => ?_)
        refine wp_append_own _ _ 40 rfl wd.heap.size 68 i0 z0 2 32 Tryz.underlying40 HI.out.1 HI.out.2.1 HI.out.2.2.1 HI.out.2.2.2.1 HI.out.2.2.2.2 (by decide) v4 k (mkL F k) rfl hOw2 ad (n - (k + 1)) c2 ((mkL F n).drop ((k + 1) * 2)) rfl (by rw [List.length_drop, mkL_len]; omega) (HN2.out _ hGw2) HO2.out (by unfold maxLen; omega) (by omega) hBw2.size ?_
        intro v9 w3 hOw3 hgrw3
        have hBw3 : Below wd.heap.size wd w3 := below_grown hBw2 hgrw3 (owns_base hOw2) hBw2.size
        rw [show k + (n - (k + 1)) = n - 1 by omega] at hOw3
        have HV9 := Lib.hid (OwnV.of (V := mkV (skF F k)) hOw3 (fun q hq j hj => by
          have := sk_cat (F := F) hlt (q * 2 + j) (by omega)
          rw [show (q * 2 + j) / 2 = q by omega, show (q * 2 + j) % 2 = j by omega] at this
          exact this))
        have HL9 := Lib.hid (show ∃ a9 c9, v9 = .slice a9 (n - 1) c9 from by
          rcases hOw3.2 with ⟨rfl, h0⟩ | ⟨g9, c9, cur, rfl, -⟩
          · exact ⟨none, 0, by rw [h0]⟩
          · exact ⟨_, c9, rfl⟩)
        clear hOw1 hOw2 hOw3
        have hGw3 : rowOf w3 g = R := (keep_row hBw3 (by omega)).trans hGd
        clear hgrw3
        refine hRR _ _ ⟨hGw3, ?_⟩
        clear hRR RR
        try simp only [Act.put, Act.eval, List.getElem_toArray, List.getElem_cons_zero, List.getElem_cons_succ, List.setIfInBounds_toArray, List.set_cons_zero, List.set_cons_succ, Array.getD_eq_getD_getElem?, List.getElem?_toArray, List.getElem?_cons_zero, List.getElem?_cons_succ, Option.getD_some]
        refine wpAnyH_take (i := 10) rfl (by kernel_rfl) (by kernel_rfl) (by kernel_rfl) (fun _ _ _ h => h) (yieldsIf_assign rfl rfl) hGw3 ?_
        try simp only [Act.put, Act.eval, List.getElem_toArray, List.getElem_cons_zero, List.getElem_cons_succ, List.setIfInBounds_toArray, List.set_cons_zero, List.set_cons_succ, Array.getD_eq_getD_getElem?, List.getElem?_toArray, List.getElem?_cons_zero, List.getElem?_cons_succ, Option.getD_some]
        refine wpAnyH_done (by kernel_rfl) ?_ _
        have hbw3 : Below w.heap.size w w3 := hbd.trans (below_le hBw3 (by omega))
        have hrw3 := (keep_row hBw3 (show w.heap.size < wd.heap.size by omega)).trans hrd
        have hsw3 := hBw3.size
        have HO4 := Lib.hid (own_sk HH.out hlt hbw3 HV9.out)
        clear hbd hrd hBd hBwd hBw1 hBw2 hBw3 hGd hGw1 hGw2 hGw3 hb hrow
        go_wp2_with (go_at_call 29; refine (HB2.out w.heap.size _ _ w3.heap.size _ (by (go_simp <;> (intros; omega))) (by first | omega | (simp <;> omega)) (HO4.out.below (by repeat' (first | with_reducible exact Below.refl _ _ | with_reducible assumption | with_reducible refine Below.drew ?_ | with_reducible refine Below.drewN ?_ _ | with_reducible refine Below.alloc ?_ ?_ _ | with_reducible refine Below.setCell ?_ ?_ _ | with_reducible refine Below.setRow ?_ ?_ _ | with_reducible refine below_step (by assumption) ?_ ?_ | (show (_ : Nat) ≤ _; first | omega | (simp <;> omega)))) (Nat.le_refl _)) (HPV.out.below (by repeat' (first | with_reducible exact Below.refl _ _ | with_reducible assumption | with_reducible refine Below.drew ?_ | with_reducible refine Below.drewN ?_ _ | with_reducible refine Below.alloc ?_ ?_ _ | with_reducible refine Below.setCell ?_ ?_ _ | with_reducible refine Below.setRow ?_ ?_ _ | with_reducible refine below_step (by assumption) ?_ ?_ | (show (_ : Nat) ≤ _; first | omega | (simp <;> omega)))) (Nat.le_refl _)) (own_empty_i64 _ _)).mono ?_; rintro e w5 ⟨v5, rfl, hall, hb5⟩; obtain ⟨ar5, cr5, rfl⟩ := hall.len; clear hall; have r_hb5 := keep_rowA hb5; have f_hb5 := keep_frA hb5; have s_hb5 := hb5.size; (try simp only [World.size_alloc, World.size_setCell, setRow_size, World.size_drew, size_drewNm] at r_hb5 f_hb5 s_hb5))
        go_roundw
        case rel => first | exact ⟨k + 1, by omega, by go_num, by repeat' (first | with_reducible exact Below.refl _ _ | with_reducible assumption | with_reducible refine Below.drew ?_ | with_reducible refine Below.drewN ?_ _ | with_reducible refine Below.alloc ?_ ?_ _ | with_reducible refine Below.setCell ?_ ?_ _ | with_reducible refine Below.setRow ?_ ?_ _ | with_reducible refine below_step (by assumption) ?_ ?_ | (show (_ : Nat) ≤ _; first | omega | (simp <;> omega))), by first | omega | (simp <;> omega), by (go_simp <;> (intros; omega)), HN.out⟩ | ((repeat (with_reducible apply Exists.intro)); refine And.intro ?_ ?_; rotate_left; (focus ((repeat' (with_reducible apply And.intro)) <;> rfl)); exact ⟨k + 1, by omega, by go_num, by repeat' (first | with_reducible exact Below.refl _ _ | with_reducible assumption | with_reducible refine Below.drew ?_ | with_reducible refine Below.drewN ?_ _ | with_reducible refine Below.alloc ?_ ?_ _ | with_reducible refine Below.setCell ?_ ?_ _ | with_reducible refine Below.setRow ?_ ?_ _ | with_reducible refine below_step (by assumption) ?_ ?_ | (show (_ : Nat) ≤ _; first | omega | (simp <;> omega))), by first | omega | (simp <;> omega), by (go_simp <;> (intros; omega)), HN.out⟩)
        case measure => simp [intOf]; omega
      · have HV := Lib.hid (HHIT.out k hlt HNO2.out (by rw [hSK]; exact List.cons_ne_nil _ _))
        rw [hSK] at HB2
        have hl1 : (0 : Int) < ((m :: L).length : Int) := by first | (simp; done) | (simp; omega)
        have hl2 : 0 < (m :: L).length := by simp
        clear hSK
        generalize m :: L = L2 at *
        go_wp2
        refine wp_world (fun wd hwd => ?_)
        have hbd : Below w.heap.size w wd := by rw [hwd]; repeat' (first | with_reducible exact Below.refl _ _ | with_reducible assumption | with_reducible refine Below.drew ?_ | with_reducible refine Below.drewN ?_ _ | with_reducible refine Below.alloc ?_ ?_ _ | with_reducible refine Below.setCell ?_ ?_ _ | with_reducible refine Below.setRow ?_ ?_ _ | with_reducible refine below_step (by assumption) ?_ ?_ | (show (_ : Nat) ≤ _; first | omega | (simp <;> omega)))
        have hGd : rowOf wd g = R := by rw [hwd, keep_row hb hg]; exact hR
        have hsd : wr.heap.size ≤ wd.heap.size := by rw [hwd]; first | omega | (simp <;> omega)
        have hrd : rowOf wd w.heap.size = kc sk 266 c := by rw [hwd]; (go_simp <;> (intros; omega))
        clear hwd
        have hBd : Below wd.heap.size wd wd := Below.refl _ _
        have hBwd : Below wd.heap.size wd wd.drew := Below.drew hBd
        (refine wp_region_held (S := fun w' => rowOf w' (g) = R) (by kernel_rfl) ?_); (simp only [World.drew_eq]); (refine wpAnyH_take (i := 1) rfl (by kernel_rfl) (by kernel_rfl) (by kernel_rfl) (fun _ _ _ h => h) (yieldsIf_move rfl rfl) (by go_simp) ?_); (try simp only [Act.put, Act.eval, List.getElem_toArray, List.getElem_cons_zero, List.getElem_cons_succ, List.setIfInBounds_toArray, List.set_cons_zero, List.set_cons_succ, Array.getD_eq_getD_getElem?, List.getElem?_toArray, List.getElem?_cons_zero, List.getElem?_cons_succ, Option.getD_some]); (refine wpAnyH_take (i := 2) rfl (by kernel_rfl) (by kernel_rfl) (by kernel_rfl) (fun _ _ _ h => h) (yieldsIf_move rfl rfl) (by go_simp) ?_); (try simp only [Act.put, Act.eval, List.getElem_toArray, List.getElem_cons_zero, List.getElem_cons_succ, List.setIfInBounds_toArray, List.set_cons_zero, List.set_cons_succ, Array.getD_eq_getD_getElem?, List.getElem?_toArray, List.getElem?_cons_zero, List.getElem?_cons_succ, Option.getD_some]); (refine wpAnyH_take (i := 5) rfl (by kernel_rfl) (by kernel_rfl) (by kernel_rfl) (fun _ _ _ h => h) (yieldsIf_move rfl rfl) (by go_simp) ?_); (try simp only [Act.put, Act.eval, List.getElem_toArray, List.getElem_cons_zero, List.getElem_cons_succ, List.setIfInBounds_toArray, List.set_cons_zero, List.set_cons_succ, Array.getD_eq_getD_getElem?, List.getElem?_toArray, List.getElem?_cons_zero, List.getElem?_cons_succ, Option.getD_some]); (refine wpAnyH_take (i := 6) rfl (by kernel_rfl) (by kernel_rfl) (by kernel_rfl) (fun _ _ _ h => h) (yieldsIf_move rfl rfl) (by go_simp) ?_); (try simp only [Act.put, Act.eval, List.getElem_toArray, List.getElem_cons_zero, List.getElem_cons_succ, List.setIfInBounds_toArray, List.set_cons_zero, List.set_cons_succ, Array.getD_eq_getD_getElem?, List.getElem?_toArray, List.getElem?_cons_zero, List.getElem?_cons_succ, Option.getD_some]); (refine wpAnyH_take (i := 3) (v := .slice (some ⟨g, 0, none⟩) k n) rfl (by kernel_rfl) (by kernel_rfl) (by kernel_rfl) (fun _ _ _ h => h) (.inl ⟨by first | (simp [Region.wanted]; done) | rfl | simp [Region.wanted, yielded], fun w _ => by unfold execOp; go_simp⟩) (by go_simp) ?_); (try simp only [Act.put, Act.eval, List.getElem_toArray, List.getElem_cons_zero, List.getElem_cons_succ, List.setIfInBounds_toArray, List.set_cons_zero, List.set_cons_succ, Array.getD_eq_getD_getElem?, List.getElem?_toArray, List.getElem?_cons_zero, List.getElem?_cons_succ, Option.getD_some]); (refine wpAnyH_take (i := 7) (v := .int .i64 ((k : Int) + 1)) rfl (by kernel_rfl) (by kernel_rfl) (by kernel_rfl) (fun _ _ _ h => h) (.inl ⟨by first | (simp [Region.wanted]; done) | rfl | simp [Region.wanted, yielded], fun w _ => by unfold execOp; go_simp⟩) (by go_simp) ?_); (try simp only [Act.put, Act.eval, List.getElem_toArray, List.getElem_cons_zero, List.getElem_cons_succ, List.setIfInBounds_toArray, List.set_cons_zero, List.set_cons_succ, Array.getD_eq_getD_getElem?, List.getElem?_toArray, List.getElem?_cons_zero, List.getElem?_cons_succ, Option.getD_some]); (refine wpAnyH_take (i := 8) (v := .slice (some ad) (n - (k + 1)) c2) rfl (by kernel_rfl) (by kernel_rfl) (by kernel_rfl) (fun _ _ _ h => h) (.inl ⟨by first | (simp [Region.wanted]; done) | rfl | simp [Region.wanted, yielded], fun w _ => by unfold execOp; go_simp⟩) (by go_simp) ?_); (try simp only [Act.put, Act.eval, List.getElem_toArray, List.getElem_cons_zero, List.getElem_cons_succ, List.setIfInBounds_toArray, List.set_cons_zero, List.set_cons_succ, Array.getD_eq_getD_getElem?, List.getElem?_toArray, List.getElem?_cons_zero, List.getElem?_cons_succ, Option.getD_some])
        refine wpAnyH_one (i := 0) (by kernel_rfl) rfl rfl ?_
        refine oper_hid (fun RR hRR => ?_)
        refine wp_buildSlice_none 40 rfl 68 i0 Tryz.underlying40 HI.out.1 (fun w1 hqw1 => ?_)
        have hBw1 : Below wd.heap.size wd w1 := by rw [hqw1]; exact Below.alloc hBwd hBwd.size _
        have hOw1 : w1.ownsRow wd.heap.size 68 2 (.slice (some ⟨wd.heap.size, 0, none⟩) 0 0) 0 [] := by rw [hqw1]; exact owns_downP (owns_emptyW _ _ _) hBwd.size
        have hGw1 : rowOf w1 g = R := (keep_row hBw1 (by omega)).trans hGd
        clear hqw1
        refine hRR _ _ ⟨hGw1, ?_⟩
        clear hRR RR
        try simp only [Act.put, Act.eval, List.getElem_toArray, List.getElem_cons_zero, List.getElem_cons_succ, List.setIfInBounds_toArray, List.set_cons_zero, List.set_cons_succ, Array.getD_eq_getD_getElem?, List.getElem?_toArray, List.getElem?_cons_zero, List.getElem?_cons_succ, Option.getD_some]
        refine wpAnyH_one (i := 4) (by kernel_rfl) rfl rfl ?_
        refine oper_hid (fun RR hRR => ?_)
        refine wp_append_own _ _ 40 rfl wd.heap.size 68 i0 z0 2 32 Tryz.underlying40 HI.out.1 HI.out.2.1 HI.out.2.2.1 HI.out.2.2.2.1 HI.out.2.2.2.2 (by decide) _ 0 [] rfl hOw1 ⟨g, 0, none⟩ k n (mkL F k) rfl (mkL_len F k) (HN1.out _ hGw1) HO1.out (by unfold maxLen; omega) (by omega) hBw1.size ?_
        intro v4 w2 hOw2 hgrw2
        rw [Nat.zero_add, List.nil_append] at hOw2
        have hBw2 : Below wd.heap.size wd w2 := below_grown hBw1 hgrw2 (owns_base hOw1) hBw1.size
        have hGw2 : rowOf w2 g = R := (keep_row hBw2 (by omega)).trans hGd
        clear hgrw2
        refine hRR _ _ ⟨hGw2, ?_⟩
        clear hRR RR
        try simp only [Act.put, Act.eval, List.getElem_toArray, List.getElem_cons_zero, List.getElem_cons_succ, List.setIfInBounds_toArray, List.set_cons_zero, List.set_cons_succ, Array.getD_eq_getD_getElem?, List.getElem?_toArray, List.getElem?_cons_zero, List.getElem?_cons_succ, Option.getD_some]
        refine wpAnyH_one (i := 9) (by kernel_rfl) rfl rfl ?_
        refine oper_hid (fun RR hRR => ?_)
        refine wp_append_own _ _ 40 rfl wd.heap.size 68 i0 z0 2 32 Tryz.underlying40 HI.out.1 HI.out.2.1 HI.out.2.2.1 HI.out.2.2.2.1 HI.out.2.2.2.2 (by decide) v4 k (mkL F k) rfl hOw2 ad (n - (k + 1)) c2 ((mkL F n).drop ((k + 1) * 2)) rfl (by rw [List.length_drop, mkL_len]; omega) (HN2.out _ hGw2) HO2.out (by unfold maxLen; omega) (by omega) hBw2.size ?_
        intro v9 w3 hOw3 hgrw3
        have hBw3 : Below wd.heap.size wd w3 := below_grown hBw2 hgrw3 (owns_base hOw2) hBw2.size
        rw [show k + (n - (k + 1)) = n - 1 by omega] at hOw3
        have HV9 := Lib.hid (OwnV.of (V := mkV (skF F k)) hOw3 (fun q hq j hj => by
          have := sk_cat (F := F) hlt (q * 2 + j) (by omega)
          rw [show (q * 2 + j) / 2 = q by omega, show (q * 2 + j) % 2 = j by omega] at this
          exact this))
        have HL9 := Lib.hid (show ∃ a9 c9, v9 = .slice a9 (n - 1) c9 from by
          rcases hOw3.2 with ⟨rfl, h0⟩ | ⟨g9, c9, cur, rfl, -⟩
          · exact ⟨none, 0, by rw [h0]⟩
          · exact ⟨_, c9, rfl⟩)
        clear hOw1 hOw2 hOw3
        have hGw3 : rowOf w3 g = R := (keep_row hBw3 (by omega)).trans hGd
        clear hgrw3
        refine hRR _ _ ⟨hGw3, ?_⟩
        clear hRR RR
        try simp only [Act.put, Act.eval, List.getElem_toArray, List.getElem_cons_zero, List.getElem_cons_succ, List.setIfInBounds_toArray, List.set_cons_zero, List.set_cons_succ, Array.getD_eq_getD_getElem?, List.getElem?_toArray, List.getElem?_cons_zero, List.getElem?_cons_succ, Option.getD_some]
        refine wpAnyH_take (i := 10) rfl (by kernel_rfl) (by kernel_rfl) (by kernel_rfl) (fun _ _ _ h => h) (yieldsIf_assign rfl rfl) hGw3 ?_
        try simp only [Act.put, Act.eval, List.getElem_toArray, List.getElem_cons_zero, List.getElem_cons_succ, List.setIfInBounds_toArray, List.set_cons_zero, List.set_cons_succ, Array.getD_eq_getD_getElem?, List.getElem?_toArray, List.getElem?_cons_zero, List.getElem?_cons_succ, Option.getD_some]
        refine wpAnyH_done (by kernel_rfl) ?_ _
        have hbw3 : Below w.heap.size w w3 := hbd.trans (below_le hBw3 (by omega))
        have hrw3 := (keep_row hBw3 (show w.heap.size < wd.heap.size by omega)).trans hrd
        have hsw3 := hBw3.size
        have HO4 := Lib.hid (own_sk HH.out hlt hbw3 HV9.out)
        clear hbd hrd hBd hBwd hBw1 hBw2 hBw3 hGd hGw1 hGw2 hGw3 hb hrow
        go_wp2_with (go_at_call 29; refine (HB2.out w.heap.size _ _ w3.heap.size _ (by (go_simp <;> (intros; omega))) (by first | omega | (simp <;> omega)) (HO4.out.below (by repeat' (first | with_reducible exact Below.refl _ _ | with_reducible assumption | with_reducible refine Below.drew ?_ | with_reducible refine Below.drewN ?_ _ | with_reducible refine Below.alloc ?_ ?_ _ | with_reducible refine Below.setCell ?_ ?_ _ | with_reducible refine Below.setRow ?_ ?_ _ | with_reducible refine below_step (by assumption) ?_ ?_ | (show (_ : Nat) ≤ _; first | omega | (simp <;> omega)))) (Nat.le_refl _)) (HPV.out.below (by repeat' (first | with_reducible exact Below.refl _ _ | with_reducible assumption | with_reducible refine Below.drew ?_ | with_reducible refine Below.drewN ?_ _ | with_reducible refine Below.alloc ?_ ?_ _ | with_reducible refine Below.setCell ?_ ?_ _ | with_reducible refine Below.setRow ?_ ?_ _ | with_reducible refine below_step (by assumption) ?_ ?_ | (show (_ : Nat) ≤ _; first | omega | (simp <;> omega)))) (Nat.le_refl _)) (own_empty_i64 _ _)).mono ?_; rintro e w5 ⟨v5, rfl, hall, hb5⟩; obtain ⟨ar5, cr5, rfl⟩ := hall.len; clear hall; have r_hb5 := keep_rowA hb5; have f_hb5 := keep_frA hb5; have s_hb5 := hb5.size; (try simp only [World.size_alloc, World.size_setCell, setRow_size, World.size_drew, size_drewNm] at r_hb5 f_hb5 s_hb5))
        refine bodyPost_ret (v := .tuple #[.int .i64 (k : Int), .int .i64 0]) (res_tt rfl rfl rfl) rfl ⟨by rw [HV.out.1, HV.out.2], by repeat' (first | with_reducible exact Below.refl _ _ | with_reducible assumption | with_reducible refine Below.drew ?_ | with_reducible refine Below.drewN ?_ _ | with_reducible refine Below.alloc ?_ ?_ _ | with_reducible refine Below.setCell ?_ ?_ _ | with_reducible refine Below.setRow ?_ ?_ _ | with_reducible refine below_step (by assumption) ?_ ?_ | (show (_ : Nat) ≤ _; first | omega | (simp <;> omega)))⟩
    · have hke : k = n := by omega
      subst hke
      have HV := Lib.hid (HMISS.out (fun j hj => HNO2.out j hj))
      go_wp2
      refine bodyPost_ret (v := .tuple #[.int .i64 0, .int .i64 6]) (res_tt rfl rfl rfl) rfl ⟨by rw [HV.out.1, HV.out.2], by repeat' (first | with_reducible exact Below.refl _ _ | with_reducible assumption | with_reducible refine Below.drew ?_ | with_reducible refine Below.drewN ?_ _ | with_reducible refine Below.alloc ?_ ?_ _ | with_reducible refine Below.setCell ?_ ?_ _ | with_reducible refine Below.setRow ?_ ?_ _ | with_reducible refine below_step (by assumption) ?_ ?_ | (show (_ : Nat) ≤ _; first | omega | (simp <;> omega)))⟩
end Go.Proofs.YtifhffnppgkjgaaGreatDoor
