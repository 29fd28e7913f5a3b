/- The inks that a picture shows, in a new slice, in both. -/
import Derived.Test.YtigiooollonmjaaPicS
import Derived.Test.YtigiooollonmjaaPicI
import Derived.Test.YtigiooollonmjaaSlI
namespace Go.Proofs.Ytigiooollonmjaa
open Go.RowKit
set_option linter.unusedVariables false
set_option linter.unusedSimpArgs false
set_option maxRecDepth 100000
/-- Of the first n numbers those at which f is above 0, as values, and how many these are. -/
def inkL (f : Nat → Int) : Nat → List Value
  | 0 => []
  | n + 1 => inkL f n ++ (if 0 < f n then [.int .i64 (n : Int)] else [])
def inkN (f : Nat → Int) : Nat → Nat
  | 0 => 0
  | n + 1 => inkN f n + (if 0 < f n then 1 else 0)
theorem inkN_le (f : Nat → Int) (n : Nat) : inkN f n ≤ n := by
  induction n with
  | zero => exact Nat.le_refl _
  | succ n ih => show inkN f n + (if 0 < f n then 1 else 0) ≤ n + 1; split <;> omega
theorem ink_yes {f : Nat → Int} {n : Nat} (h : 0 < f n) : inkL f (n + 1) = inkL f n ++ [.int .i64 (n : Int)] ∧ inkN f (n + 1) = inkN f n + 1 := by
  constructor
  · show inkL f n ++ (if 0 < f n then _ else _) = _; rw [if_pos h]
  · show inkN f n + (if 0 < f n then 1 else 0) = _; rw [if_pos h]
theorem ink_no {f : Nat → Int} {n : Nat} (h : ¬ 0 < f n) : inkL f (n + 1) = inkL f n ∧ inkN f (n + 1) = inkN f n := by
  constructor
  · show inkL f n ++ (if 0 < f n then _ else _) = _; rw [if_neg h, List.append_nil]
  · show inkN f n + (if 0 < f n then 1 else 0) = _; rw [if_neg h]; rfl
theorem owns_empty1 (w : World) (e : TypeId) : (w.alloc (.cells #[] e)).ownsRow w.heap.size e 1 (.slice (some ⟨w.heap.size, 0, none⟩) 0 0) 0 [] :=
  ⟨rfl, .inr ⟨w.heap.size, 0, #[], rfl, Nat.le_refl _, by unfold World.alloc; exact Array.getElem?_push_size, Nat.le_refl _, by unfold maxLen; omega, rfl, rfl⟩⟩
theorem i64_info : ∃ i z, Try.prog.info? 2 = some i ∧ i.zero = some z ∧ i.size = 1 ∧ i.bytes = 8 ∧ z.cells.size = 1 := by
  have h : (match Try.prog.info? 2 with | some i => (match i.zero with | some z => i.size == 1 && i.bytes == 8 && z.cells.size == 1 | none => false) | none => false) = true := by kernel_rfl
  split at h
  · rename_i i hi
    split at h
    · rename_i z hz
      simp only [Bool.and_eq_true, beq_iff_eq] at h
      exact ⟨i, z, hi, hz, h.1.1, h.1.2, h.2⟩
    · cases h
  · cases h
/-- A value that owns n elements has the length n, whichever of the two it is. -/
theorem owns_len {w : World} {base : Nat} {e : TypeId} {s : Nat} {v : Value} {n : Nat} {xs : List Value} (h : w.ownsRow base e s v n xs) : ∃ a cap, v = .slice a n cap := by
  rcases h.2 with ⟨rfl, rfl⟩ | ⟨g, cap, cur, rfl, _⟩
  · exact ⟨_, _, rfl⟩
  · exact ⟨_, _, rfl⟩
theorem owns_below {w w' : World} {base : Nat} {e : TypeId} {s : Nat} {v : Value} {n : Nat} {xs : List Value} (h : w.ownsRow base e s v n xs) (hb : Below w.heap.size w w') : w'.ownsRow base e s v n xs := by
  refine ⟨h.1, ?_⟩
  rcases h.2 with hn | ⟨g, cap, cur, rfl, hg, hgg, rest⟩
  · exact .inl hn
  · exact .inr ⟨g, cap, cur, rfl, hg, (hb.block g (Array.getElem?_eq_some_iff.1 hgg).1).trans hgg, rest⟩
def InkR (f : Nat → Int) (w : World) (i v : Value) (wr : World) : Prop := ∃ k : Nat, k ≤ 3 ∧ i = .int .i64 k ∧ Below w.heap.size w wr ∧ wr.ownsRow w.heap.size 2 1 v (inkN f k) (inkL f k)
set_option maxHeartbeats 2000000 in
theorem l07Inks_any (p : Nat) (c : Nat → Int) (hf : FitPicture c) (W H : Nat) (hW : c 0 = W) (hH : c 1 = H) (W0 : 0 < W) (H0 : 0 < H) (W8 : W ≤ 8) (H8 : H ≤ 8) (w : World) (hr : rowOf w p = kc pk 66 c) (hp : p < w.heap.size) :
    Calls Try.prog 97 #[.pointer (some ⟨p, 0, none⟩)] w fun e w' => ∃ v, e = .returned v ∧ w'.ownsRow w.heap.size 2 1 v (inkN (fun j => cnt c W ((j : Int) + 1) (H * W)) 3) (inkL (fun j => cnt c W ((j : Int) + 1) (H * W)) 3) ∧ Below w.heap.size w w' := by
  obtain ⟨i0, z0, hi0, hz0, hs0, hb0, hc0⟩ := i64_info
  have hS := fun m w hr hp => l07Count_any p c hf W H hW hH W0 H0 W8 H8 m w hr hp
  generalize H * W = n at hS ⊢
  have HS := Lib.hid hS
  clear hS
  go_enter Try.func97, Try.ntmps97
  go_wp2
  go_loopw [4, 3] (fun i v wr => InkR (fun j => cnt c W ((j : Int) + 1) n) w i v wr) (fun i v wr => 3 - (intOf i).toNat)
  case atStart => exact ⟨0, by omega, rfl, by repeat' (first | with_reducible exact Below.refl _ _ | with_reducible assumption | with_reducible refine Below.drew ?_ | with_reducible refine Below.drewN ?_ _ | with_reducible refine Below.alloc ?_ ?_ _ | with_reducible refine Below.setCell ?_ ?_ _ | with_reducible refine Below.setRow ?_ ?_ _ | with_reducible refine below_step (by assumption) ?_ ?_ | (show (_ : Nat) ≤ _; first | omega | (simp <;> omega))), owns_empty1 _ _⟩
  case round =>
    obtain ⟨k, hk, rfl, hb, hown⟩ := hrel
    have hsz := hb.size
    have hrw : rowOf wr p = kc pk 66 c := (keep_row hb hp).trans hr
    have hpw : p < wr.heap.size := Nat.lt_of_lt_of_le hp hb.size
    have HO := Lib.hid hown
    clear hown
    by_cases hlt : k < 3
    · have hwu : IntKind.u8.wrap ((k : Int) + 1) = (k : Int) + 1 := by simp only [IntKind.wrap, IntKind.bits, IntKind.signed]; simp; omega
      have hle := inkN_le (fun j => cnt c W ((j : Int) + 1) n) k
      by_cases hv : 0 < cnt c W ((k : Int) + 1) n
      · have hd : decide (0 < cnt c W ((k : Int) + 1) n) = true := decide_eq_true hv
        have HN := Lib.hid (ink_yes (f := fun j => cnt c W ((j : Int) + 1) n) hv)
        have HBR := Lib.hid hb
        clear hv
        go_wp2_with (first | (go_at_call 86; refine (HS.out _ _ (by (go_simp <;> (intros; omega))) (by first | omega | (simp <;> omega))).mono ?_; rintro e w1 ⟨rfl, hb1⟩; have r1 := keep_rowA hb1; have f1 := keep_frA hb1; have s1 := hb1.size; (try simp only [World.size_alloc, World.size_setCell, setRow_size, World.size_drew] at r1 f1 s1)) | (at_builtin; refine wpList_append_own _ rfl _ _ 75 rfl w.heap.size 2 i0 z0 1 8 Try.underlying75 hi0 hz0 hs0 hb0 hc0 (by decide) _ _ _ rfl ((owns_below HO.out hb1).alloc _) ⟨w1.heap.size, 0, none⟩ 1 1 [.int .i64 k] rfl rfl ?c1 ?c2 ?c3 ?c4 ?c5 ?_))
        case c1 =>
          intro j u hj
          match j, hj with
          | 0, hj => simp at hj; subst hj; simp [Addr.add]
        case c2 => intro u hu; simp at hu; subst hu; rfl
        case c3 => unfold maxLen; omega
        case c4 => omega
        case c5 => have := hb.size; have := hb1.size; simp; omega
        intro v' w2 hown' hgrow _
        rw [← HN.out.1, ← HN.out.2] at hown'
        have hbg : Below w.heap.size w w2 := below_grown (Below.alloc (by repeat' (first | with_reducible exact Below.refl _ _ | with_reducible assumption | with_reducible refine Below.drew ?_ | with_reducible refine Below.drewN ?_ _ | with_reducible refine Below.alloc ?_ ?_ _ | with_reducible refine Below.setCell ?_ ?_ _ | with_reducible refine Below.setRow ?_ ?_ _ | with_reducible refine below_step (by assumption) ?_ ?_ | (show (_ : Nat) ≤ _; first | omega | (simp <;> omega)))) (by have := hb.size; have := hb1.size; omega) _) hgrow (owns_base HO.out) (by have := hb.size; have := hb1.size; simp; omega)
        have HB := Lib.hid hbg
        have HW := Lib.hid hown'
        clear hbg hown' hgrow
        go_wp2
        go_roundw
        case rel => first | exact ⟨k + 1, by omega, by go_num, HB.out, HW.out⟩ | ((repeat (with_reducible apply Exists.intro)); refine And.intro ?_ ?_; rotate_left; focus ((repeat' (with_reducible apply And.intro)) <;> rfl); exact ⟨k + 1, by omega, by go_num, HB.out, HW.out⟩)
        case measure => simp [intOf]; omega
      · have hd : decide (0 < cnt c W ((k : Int) + 1) n) = false := decide_eq_false hv
        have HN := Lib.hid (ink_no (f := fun j => cnt c W ((j : Int) + 1) n) hv)
        clear hv
        go_wp2_with ((go_at_call 86; refine (HS.out _ _ (by (go_simp <;> (intros; omega))) (by first | omega | (simp <;> omega))).mono ?_; rintro e w1 ⟨rfl, hb1⟩; have r1 := keep_rowA hb1; have f1 := keep_frA hb1; have s1 := hb1.size; (try simp only [World.size_alloc, World.size_setCell, setRow_size, World.size_drew] at r1 f1 s1)))
        go_roundw
        case rel => first | exact ⟨k + 1, by omega, by go_num, by repeat' (first | with_reducible exact Below.refl _ _ | with_reducible assumption | with_reducible refine Below.drew ?_ | with_reducible refine Below.drewN ?_ _ | with_reducible refine Below.alloc ?_ ?_ _ | with_reducible refine Below.setCell ?_ ?_ _ | with_reducible refine Below.setRow ?_ ?_ _ | with_reducible refine below_step (by assumption) ?_ ?_ | (show (_ : Nat) ≤ _; first | omega | (simp <;> omega))), by rw [HN.out.1, HN.out.2]; exact owns_below HO.out (by repeat' (first | with_reducible exact Below.refl _ _ | with_reducible assumption | with_reducible refine Below.drew ?_ | with_reducible refine Below.drewN ?_ _ | with_reducible refine Below.alloc ?_ ?_ _ | with_reducible refine Below.setCell ?_ ?_ _ | with_reducible refine Below.setRow ?_ ?_ _ | with_reducible refine below_step (by assumption) ?_ ?_ | (show (_ : Nat) ≤ _; first | omega | (simp <;> omega))))⟩ | ((repeat (with_reducible apply Exists.intro)); refine And.intro ?_ ?_; rotate_left; focus ((repeat' (with_reducible apply And.intro)) <;> rfl); exact ⟨k + 1, by omega, by go_num, by repeat' (first | with_reducible exact Below.refl _ _ | with_reducible assumption | with_reducible refine Below.drew ?_ | with_reducible refine Below.drewN ?_ _ | with_reducible refine Below.alloc ?_ ?_ _ | with_reducible refine Below.setCell ?_ ?_ _ | with_reducible refine Below.setRow ?_ ?_ _ | with_reducible refine below_step (by assumption) ?_ ?_ | (show (_ : Nat) ≤ _; first | omega | (simp <;> omega))), by rw [HN.out.1, HN.out.2]; exact owns_below HO.out (by repeat' (first | with_reducible exact Below.refl _ _ | with_reducible assumption | with_reducible refine Below.drew ?_ | with_reducible refine Below.drewN ?_ _ | with_reducible refine Below.alloc ?_ ?_ _ | with_reducible refine Below.setCell ?_ ?_ _ | with_reducible refine Below.setRow ?_ ?_ _ | with_reducible refine below_step (by assumption) ?_ ?_ | (show (_ : Nat) ≤ _; first | omega | (simp <;> omega))))⟩)
        case measure => simp [intOf]; omega
    · have hke : k = 3 := by omega
      subst hke
      go_wp2
      go_ret
      exact ⟨_, rfl, HO.out, by repeat' (first | with_reducible exact Below.refl _ _ | with_reducible assumption | with_reducible refine Below.drew ?_ | with_reducible refine Below.drewN ?_ _ | with_reducible refine Below.alloc ?_ ?_ _ | with_reducible refine Below.setCell ?_ ?_ _ | with_reducible refine Below.setRow ?_ ?_ _ | with_reducible refine below_step (by assumption) ?_ ?_ | (show (_ : Nat) ≤ _; first | omega | (simp <;> omega)))⟩
noncomputable def inkFn (c : Nat → Int) : Nat → Int := fun j => cnt c (c 0).toNat ((j : Int) + 1) ((c 1).toNat * (c 0).toNat)
noncomputable def inkC (c : Nat → Int) : Nat := if okP c = true then inkN (inkFn c) 3 else 0
noncomputable def inkE (c : Nat → Int) (j : Nat) : Int := intOf (((inkL (inkFn c) 3)[j]?).getD (.int .i64 0))
theorem inkL_len (f : Nat → Int) (n : Nat) : (inkL f n).length = inkN f n := by
  induction n with
  | zero => rfl
  | succ n ih =>
    show (inkL f n ++ (if 0 < f n then _ else _)).length = inkN f n + (if 0 < f n then 1 else 0)
    rw [List.length_append, ih]; split <;> rfl
theorem inkL_get (f : Nat → Int) (n : Nat) : ∀ u ∈ inkL f n, ∃ a, u = .int .i64 a := by
  induction n with
  | zero => intro u h; cases h
  | succ n ih =>
    intro u h
    rcases List.mem_append.1 h with h | h
    · exact ih u h
    · split at h
      · exact ⟨_, List.mem_singleton.1 h⟩
      · cases h
theorem inkE_at (c : Nat → Int) (j : Nat) (h : j < inkN (inkFn c) 3 * 1) : (inkL (inkFn c) 3)[j]? = some (.int .i64 (inkE c j)) := by
  have hj : j < (inkL (inkFn c) 3).length := by rw [inkL_len]; omega
  obtain ⟨a, ha⟩ := inkL_get (inkFn c) 3 _ (List.getElem_mem hj)
  unfold inkE
  rw [List.getElem?_eq_getElem hj, ha]; rfl
theorem inkC_yes {c : Nat → Int} (ho : okP c = true) : inkC c = inkN (inkFn c) 3 := if_pos ho
theorem inkC_no {c : Nat → Int} (ho : okP c = false) : inkC c = 0 := if_neg (by simp [ho])
theorem inkFn_is {c : Nat → Int} {W H : Nat} (hW : c 0 = W) (hH : c 1 = H) : inkFn c = fun j : Nat => cnt c W ((j : Int) + 1) (H * W) := by
  unfold inkFn; rw [hW, hH, Int.toNat_natCast, Int.toNat_natCast]
set_option maxHeartbeats 1000000 in
theorem sInksOf_any (c : Nat → Int) (hf : FitPicture c) (w : World) : Calls Try.prog 40 #[.agg (kc pk 66 c)] w fun e w' => ∃ v, e = .returned (.tuple #[v, .int .i64 (askB (okP c) true true)]) ∧ OwnK .i64 1 w' w.heap.size v (inkC c) (inkE c) ∧ Below w.heap.size w w' := by
  have hO := fun p w hr hp => l07Ok_any p c hf w hr hp
  rcases Bool.eq_false_or_eq_true (okP c) with ho | ho
  · obtain ⟨W, H, hW, hH, W0, H0, W8, H8⟩ := okP_sides ho
    have hS := fun p w hr hp => l07Inks_any p c hf W H hW hH W0 H0 W8 H8 w hr hp
    rw [← inkFn_is hW hH] at hS
    have HE := Lib.hid (fun j hj => inkE_at c j hj)
    rw [inkC_yes ho]
    simp only [ho] at hO ⊢
    have HO := Lib.hid hO
    have HS := Lib.hid hS
    clear hO ho hS hW hH
    go_enter Try.func40, Try.ntmps40
    go_wp2_with (first | (go_at_call 84; refine (HO.out _ _ (by (go_simp <;> (intros; omega))) (by first | omega | (simp <;> omega))).mono ?_; rintro e w1 ⟨rfl, hb1⟩; have r1 := keep_rowA hb1; have f1 := keep_frA hb1; have s1 := hb1.size; (try simp only [World.size_alloc, World.size_setCell, setRow_size, World.size_drew] at r1 f1 s1)) | (go_at_call 97; refine (HS.out _ _ (by (go_simp <;> (intros; omega))) (by first | omega | (simp <;> omega))).mono ?_; rintro e w1 ⟨v, rfl, hown, hb1⟩; have s1 := hb1.size; have HW := Lib.hid hown; clear hown))
    refine bodyPost_ret (v := .tuple #[v, .int .i64 0]) (res_tt rfl rfl rfl) rfl ⟨v, rfl, ?_, by repeat' (first | with_reducible exact Below.refl _ _ | with_reducible assumption | with_reducible refine Below.drew ?_ | with_reducible refine Below.drewN ?_ _ | with_reducible refine Below.alloc ?_ ?_ _ | with_reducible refine Below.setCell ?_ ?_ _ | with_reducible refine Below.setRow ?_ ?_ _ | with_reducible refine below_step (by assumption) ?_ ?_ | (show (_ : Nat) ≤ _; first | omega | (simp <;> omega)))⟩
    exact ((OwnK.of HW.out HE.out).base (by first | omega | (simp <;> omega))).below (by repeat' (first | with_reducible exact Below.refl _ _ | with_reducible assumption | with_reducible refine Below.drew ?_ | with_reducible refine Below.drewN ?_ _ | with_reducible refine Below.alloc ?_ ?_ _ | with_reducible refine Below.setCell ?_ ?_ _ | with_reducible refine Below.setRow ?_ ?_ _ | with_reducible refine below_step (by assumption) ?_ ?_ | (show (_ : Nat) ≤ _; first | omega | (simp <;> omega)))) (Nat.le_refl _)
  · rw [inkC_no ho]
    simp only [ho] at hO ⊢
    have HO := Lib.hid hO
    clear hO ho
    go_enter Try.func40, Try.ntmps40
    go_wp2_with ((go_at_call 84; refine (HO.out _ _ (by (go_simp <;> (intros; omega))) (by first | omega | (simp <;> omega))).mono ?_; rintro e w1 ⟨rfl, hb1⟩; have r1 := keep_rowA hb1; have f1 := keep_frA hb1; have s1 := hb1.size; (try simp only [World.size_alloc, World.size_setCell, setRow_size, World.size_drew] at r1 f1 s1)))
    refine bodyPost_ret (v := .tuple #[_, .int .i64 1]) (res_tt rfl rfl rfl) rfl ⟨_, rfl, ⟨⟨_, _, rfl⟩, fun h => absurd h (by omega)⟩, by repeat' (first | with_reducible exact Below.refl _ _ | with_reducible assumption | with_reducible refine Below.drew ?_ | with_reducible refine Below.drewN ?_ _ | with_reducible refine Below.alloc ?_ ?_ _ | with_reducible refine Below.setCell ?_ ?_ _ | with_reducible refine Below.setRow ?_ ?_ _ | with_reducible refine below_step (by assumption) ?_ ?_ | (show (_ : Nat) ≤ _; first | omega | (simp <;> omega)))⟩
set_option maxHeartbeats 4000000 in
theorem iInksOf_any (c : Nat → Int) (hf : FitPicture c) (w : World) : Calls Try.prog 41 #[.agg (kc pk 66 c)] w fun e w' => ∃ v, e = .returned (.tuple #[v, .int .i64 (askB (okP c) true true)]) ∧ OwnK .i64 1 w' w.heap.size v (inkC c) (inkE c) ∧ Below w.heap.size w w' := by
  have hO := fun p w hr hp => pcode_any p c hf true w hr hp
  obtain ⟨i0, z0, hi0, hz0, hs0, hb0, hc0⟩ := i64_info
  rcases Bool.eq_false_or_eq_true (okP c) with ho | ho
  · obtain ⟨W, H, hW, hH, W0, H0, W8, H8⟩ := okP_sides ho
    have hS := fun p w hr hp => counts_any p c hf ho W H hW hH W0 H0 W8 H8 w hr hp
    have HE := Lib.hid (fun j hj => inkE_at c j hj)
    rw [inkFn_is hW hH] at HE
    rw [inkC_yes ho, inkFn_is hW hH]
    generalize H * W = n at hS HE ⊢
    simp only [ho] at hO ⊢
    have HO := Lib.hid hO
    have HS := Lib.hid hS
    clear hO ho hS hW hH
    go_enter Try.func41, Try.ntmps41
    go_wp2_with (first | (go_at_call 88; refine (HO.out _ _ (by (go_simp <;> (intros; omega))) (by first | omega | (simp <;> omega))).mono ?_; rintro e w1 ⟨rfl, hb1⟩; have r1 := keep_rowA hb1; have f1 := keep_frA hb1; have s1 := hb1.size; (try simp only [World.size_alloc, World.size_setCell, setRow_size, World.size_drew] at r1 f1 s1)) | (go_at_call 90; refine (HS.out _ _ (by (go_simp <;> (intros; omega))) (by first | omega | (simp <;> omega))).mono ?_; rintro e w1 ⟨rfl, hb1⟩; have r1 := keep_rowA hb1; have f1 := keep_frA hb1; have s1 := hb1.size; (try simp only [World.size_alloc, World.size_setCell, setRow_size, World.size_drew] at r1 f1 s1)))
    clear HO
    go_loopw [14, 5] (fun i v wr => InkR (fun j => cnt c W ((j : Int) + 1) n) w i v wr) (fun i v wr => 3 - (intOf i).toNat)
    case atStart => exact ⟨0, by omega, rfl, by repeat' (first | with_reducible exact Below.refl _ _ | with_reducible assumption | with_reducible refine Below.drew ?_ | with_reducible refine Below.drewN ?_ _ | with_reducible refine Below.alloc ?_ ?_ _ | with_reducible refine Below.setCell ?_ ?_ _ | with_reducible refine Below.setRow ?_ ?_ _ | with_reducible refine below_step (by assumption) ?_ ?_ | (show (_ : Nat) ≤ _; first | omega | (simp <;> omega))), owns_below (World.ownsRow_made _ #[] 0 (by first | omega | (simp <;> omega)) (by unfold maxLen; omega) rfl) (by repeat' (first | with_reducible exact Below.refl _ _ | with_reducible assumption | with_reducible refine Below.drew ?_ | with_reducible refine Below.drewN ?_ _ | with_reducible refine Below.alloc ?_ ?_ _ | with_reducible refine Below.setCell ?_ ?_ _ | with_reducible refine Below.setRow ?_ ?_ _ | with_reducible refine below_step (by assumption) ?_ ?_ | (show (_ : Nat) ≤ _; first | omega | (simp <;> omega))))⟩
    case round =>
      obtain ⟨k, hk, rfl, hb, hown⟩ := hrel
      have hsz := hb.size
      have HO := Lib.hid hown
      clear hown
      rcases (show k = 0 ∨ k = 1 ∨ k = 2 ∨ k = 3 by omega) with rfl | rfl | rfl | rfl
      · have hle := inkN_le (fun j => cnt c W ((j : Int) + 1) n) 0
        by_cases hv : 0 < cnt c W 1 n
        · have hd : decide (0 < cnt c W 1 n) = true := decide_eq_true hv
          have HN := Lib.hid (ink_yes (f := fun j => cnt c W ((j : Int) + 1) n) (n := 0) (by simpa using hv))
          clear hv
          go_wp2_with (at_builtin; refine wpList_append_own _ rfl _ _ 75 rfl w.heap.size 2 i0 z0 1 8 Try.underlying75 hi0 hz0 hs0 hb0 hc0 (by decide) _ _ _ rfl (HO.out.alloc _) ⟨wr.heap.size, 0, none⟩ 1 1 [.int .i64 0] rfl rfl ?c1 ?c2 ?c3 ?c4 ?c5 ?_)
          case c1 =>
            intro j u hj
            match j, hj with
            | 0, hj => simp at hj; subst hj; simp [Addr.add]
          case c2 => intro u hu; simp at hu; subst hu; rfl
          case c3 => unfold maxLen; omega
          case c4 => omega
          case c5 => simp; omega
          intro v' w2 hown' hgrow _
          have hown2 : w2.ownsRow w.heap.size 2 1 v' (inkN (fun j => cnt c W ((j : Int) + 1) n) (0 + 1)) (inkL (fun j => cnt c W ((j : Int) + 1) n) (0 + 1)) := by rw [HN.out.1, HN.out.2]; exact hown'
          have hbg : Below w.heap.size w w2 := below_grown (Below.alloc (by repeat' (first | with_reducible exact Below.refl _ _ | with_reducible assumption | with_reducible refine Below.drew ?_ | with_reducible refine Below.drewN ?_ _ | with_reducible refine Below.alloc ?_ ?_ _ | with_reducible refine Below.setCell ?_ ?_ _ | with_reducible refine Below.setRow ?_ ?_ _ | with_reducible refine below_step (by assumption) ?_ ?_ | (show (_ : Nat) ≤ _; first | omega | (simp <;> omega)))) (by have := hb.size; omega) _) hgrow (owns_base HO.out) (by have := hb.size; simp; omega)
          have HB := Lib.hid hbg
          have HW := Lib.hid hown2
          clear hbg hown' hown2 hgrow
          go_wp2
          go_roundw
          case rel => first | exact ⟨1, by omega, by go_num, HB.out, HW.out⟩ | ((repeat (with_reducible apply Exists.intro)); refine And.intro ?_ ?_; rotate_left; focus ((repeat' (with_reducible apply And.intro)) <;> rfl); exact ⟨1, by omega, by go_num, HB.out, HW.out⟩)
          case measure => simp [intOf]
        · have hd : decide (0 < cnt c W 1 n) = false := decide_eq_false hv
          have HN := Lib.hid (ink_no (f := fun j => cnt c W ((j : Int) + 1) n) (n := 0) (by simpa using hv))
          clear hv
          go_wp2
          go_roundw
          case rel => first | exact ⟨1, by omega, by go_num, by repeat' (first | with_reducible exact Below.refl _ _ | with_reducible assumption | with_reducible refine Below.drew ?_ | with_reducible refine Below.drewN ?_ _ | with_reducible refine Below.alloc ?_ ?_ _ | with_reducible refine Below.setCell ?_ ?_ _ | with_reducible refine Below.setRow ?_ ?_ _ | with_reducible refine below_step (by assumption) ?_ ?_ | (show (_ : Nat) ≤ _; first | omega | (simp <;> omega))), by rw [show (1 : Nat) = 0 + 1 from rfl, HN.out.1, HN.out.2]; exact HO.out⟩ | ((repeat (with_reducible apply Exists.intro)); refine And.intro ?_ ?_; rotate_left; focus ((repeat' (with_reducible apply And.intro)) <;> rfl); exact ⟨1, by omega, by go_num, by repeat' (first | with_reducible exact Below.refl _ _ | with_reducible assumption | with_reducible refine Below.drew ?_ | with_reducible refine Below.drewN ?_ _ | with_reducible refine Below.alloc ?_ ?_ _ | with_reducible refine Below.setCell ?_ ?_ _ | with_reducible refine Below.setRow ?_ ?_ _ | with_reducible refine below_step (by assumption) ?_ ?_ | (show (_ : Nat) ≤ _; first | omega | (simp <;> omega))), by rw [show (1 : Nat) = 0 + 1 from rfl, HN.out.1, HN.out.2]; exact HO.out⟩)
          case measure => simp [intOf]
      · have hle := inkN_le (fun j => cnt c W ((j : Int) + 1) n) 1
        by_cases hv : 0 < cnt c W 2 n
        · have hd : decide (0 < cnt c W 2 n) = true := decide_eq_true hv
          have HN := Lib.hid (ink_yes (f := fun j => cnt c W ((j : Int) + 1) n) (n := 1) (by simpa using hv))
          clear hv
          go_wp2_with (at_builtin; refine wpList_append_own _ rfl _ _ 75 rfl w.heap.size 2 i0 z0 1 8 Try.underlying75 hi0 hz0 hs0 hb0 hc0 (by decide) _ _ _ rfl (HO.out.alloc _) ⟨wr.heap.size, 0, none⟩ 1 1 [.int .i64 1] rfl rfl ?c1 ?c2 ?c3 ?c4 ?c5 ?_)
          case c1 =>
            intro j u hj
            match j, hj with
            | 0, hj => simp at hj; subst hj; simp [Addr.add]
          case c2 => intro u hu; simp at hu; subst hu; rfl
          case c3 => unfold maxLen; omega
          case c4 => omega
          case c5 => simp; omega
          intro v' w2 hown' hgrow _
          have hown2 : w2.ownsRow w.heap.size 2 1 v' (inkN (fun j => cnt c W ((j : Int) + 1) n) (1 + 1)) (inkL (fun j => cnt c W ((j : Int) + 1) n) (1 + 1)) := by rw [HN.out.1, HN.out.2]; exact hown'
          have hbg : Below w.heap.size w w2 := below_grown (Below.alloc (by repeat' (first | with_reducible exact Below.refl _ _ | with_reducible assumption | with_reducible refine Below.drew ?_ | with_reducible refine Below.drewN ?_ _ | with_reducible refine Below.alloc ?_ ?_ _ | with_reducible refine Below.setCell ?_ ?_ _ | with_reducible refine Below.setRow ?_ ?_ _ | with_reducible refine below_step (by assumption) ?_ ?_ | (show (_ : Nat) ≤ _; first | omega | (simp <;> omega)))) (by have := hb.size; omega) _) hgrow (owns_base HO.out) (by have := hb.size; simp; omega)
          have HB := Lib.hid hbg
          have HW := Lib.hid hown2
          clear hbg hown' hown2 hgrow
          go_wp2
          go_roundw
          case rel => first | exact ⟨2, by omega, by go_num, HB.out, HW.out⟩ | ((repeat (with_reducible apply Exists.intro)); refine And.intro ?_ ?_; rotate_left; focus ((repeat' (with_reducible apply And.intro)) <;> rfl); exact ⟨2, by omega, by go_num, HB.out, HW.out⟩)
          case measure => simp [intOf]
        · have hd : decide (0 < cnt c W 2 n) = false := decide_eq_false hv
          have HN := Lib.hid (ink_no (f := fun j => cnt c W ((j : Int) + 1) n) (n := 1) (by simpa using hv))
          clear hv
          go_wp2
          go_roundw
          case rel => first | exact ⟨2, by omega, by go_num, by repeat' (first | with_reducible exact Below.refl _ _ | with_reducible assumption | with_reducible refine Below.drew ?_ | with_reducible refine Below.drewN ?_ _ | with_reducible refine Below.alloc ?_ ?_ _ | with_reducible refine Below.setCell ?_ ?_ _ | with_reducible refine Below.setRow ?_ ?_ _ | with_reducible refine below_step (by assumption) ?_ ?_ | (show (_ : Nat) ≤ _; first | omega | (simp <;> omega))), by rw [show (2 : Nat) = 1 + 1 from rfl, HN.out.1, HN.out.2]; exact HO.out⟩ | ((repeat (with_reducible apply Exists.intro)); refine And.intro ?_ ?_; rotate_left; focus ((repeat' (with_reducible apply And.intro)) <;> rfl); exact ⟨2, by omega, by go_num, by repeat' (first | with_reducible exact Below.refl _ _ | with_reducible assumption | with_reducible refine Below.drew ?_ | with_reducible refine Below.drewN ?_ _ | with_reducible refine Below.alloc ?_ ?_ _ | with_reducible refine Below.setCell ?_ ?_ _ | with_reducible refine Below.setRow ?_ ?_ _ | with_reducible refine below_step (by assumption) ?_ ?_ | (show (_ : Nat) ≤ _; first | omega | (simp <;> omega))), by rw [show (2 : Nat) = 1 + 1 from rfl, HN.out.1, HN.out.2]; exact HO.out⟩)
          case measure => simp [intOf]
      · have hle := inkN_le (fun j => cnt c W ((j : Int) + 1) n) 2
        by_cases hv : 0 < cnt c W 3 n
        · have hd : decide (0 < cnt c W 3 n) = true := decide_eq_true hv
          have HN := Lib.hid (ink_yes (f := fun j => cnt c W ((j : Int) + 1) n) (n := 2) (by simpa using hv))
          clear hv
          go_wp2_with (at_builtin; refine wpList_append_own _ rfl _ _ 75 rfl w.heap.size 2 i0 z0 1 8 Try.underlying75 hi0 hz0 hs0 hb0 hc0 (by decide) _ _ _ rfl (HO.out.alloc _) ⟨wr.heap.size, 0, none⟩ 1 1 [.int .i64 2] rfl rfl ?c1 ?c2 ?c3 ?c4 ?c5 ?_)
          case c1 =>
            intro j u hj
            match j, hj with
            | 0, hj => simp at hj; subst hj; simp [Addr.add]
          case c2 => intro u hu; simp at hu; subst hu; rfl
          case c3 => unfold maxLen; omega
          case c4 => omega
          case c5 => simp; omega
          intro v' w2 hown' hgrow _
          have hown2 : w2.ownsRow w.heap.size 2 1 v' (inkN (fun j => cnt c W ((j : Int) + 1) n) (2 + 1)) (inkL (fun j => cnt c W ((j : Int) + 1) n) (2 + 1)) := by rw [HN.out.1, HN.out.2]; exact hown'
          have hbg : Below w.heap.size w w2 := below_grown (Below.alloc (by repeat' (first | with_reducible exact Below.refl _ _ | with_reducible assumption | with_reducible refine Below.drew ?_ | with_reducible refine Below.drewN ?_ _ | with_reducible refine Below.alloc ?_ ?_ _ | with_reducible refine Below.setCell ?_ ?_ _ | with_reducible refine Below.setRow ?_ ?_ _ | with_reducible refine below_step (by assumption) ?_ ?_ | (show (_ : Nat) ≤ _; first | omega | (simp <;> omega)))) (by have := hb.size; omega) _) hgrow (owns_base HO.out) (by have := hb.size; simp; omega)
          have HB := Lib.hid hbg
          have HW := Lib.hid hown2
          clear hbg hown' hown2 hgrow
          go_wp2
          go_roundw
          case rel => first | exact ⟨3, by omega, by go_num, HB.out, HW.out⟩ | ((repeat (with_reducible apply Exists.intro)); refine And.intro ?_ ?_; rotate_left; focus ((repeat' (with_reducible apply And.intro)) <;> rfl); exact ⟨3, by omega, by go_num, HB.out, HW.out⟩)
          case measure => simp [intOf]
        · have hd : decide (0 < cnt c W 3 n) = false := decide_eq_false hv
          have HN := Lib.hid (ink_no (f := fun j => cnt c W ((j : Int) + 1) n) (n := 2) (by simpa using hv))
          clear hv
          go_wp2
          go_roundw
          case rel => first | exact ⟨3, by omega, by go_num, by repeat' (first | with_reducible exact Below.refl _ _ | with_reducible assumption | with_reducible refine Below.drew ?_ | with_reducible refine Below.drewN ?_ _ | with_reducible refine Below.alloc ?_ ?_ _ | with_reducible refine Below.setCell ?_ ?_ _ | with_reducible refine Below.setRow ?_ ?_ _ | with_reducible refine below_step (by assumption) ?_ ?_ | (show (_ : Nat) ≤ _; first | omega | (simp <;> omega))), by rw [show (3 : Nat) = 2 + 1 from rfl, HN.out.1, HN.out.2]; exact HO.out⟩ | ((repeat (with_reducible apply Exists.intro)); refine And.intro ?_ ?_; rotate_left; focus ((repeat' (with_reducible apply And.intro)) <;> rfl); exact ⟨3, by omega, by go_num, by repeat' (first | with_reducible exact Below.refl _ _ | with_reducible assumption | with_reducible refine Below.drew ?_ | with_reducible refine Below.drewN ?_ _ | with_reducible refine Below.alloc ?_ ?_ _ | with_reducible refine Below.setCell ?_ ?_ _ | with_reducible refine Below.setRow ?_ ?_ _ | with_reducible refine below_step (by assumption) ?_ ?_ | (show (_ : Nat) ≤ _; first | omega | (simp <;> omega))), by rw [show (3 : Nat) = 2 + 1 from rfl, HN.out.1, HN.out.2]; exact HO.out⟩)
          case measure => simp [intOf]
      · go_wp2
        refine bodyPost_ret (v := .tuple #[_, .int .i64 0]) (res_tt rfl rfl rfl) rfl ⟨_, rfl, OwnK.of HO.out HE.out, by repeat' (first | with_reducible exact Below.refl _ _ | with_reducible assumption | with_reducible refine Below.drew ?_ | with_reducible refine Below.drewN ?_ _ | with_reducible refine Below.alloc ?_ ?_ _ | with_reducible refine Below.setCell ?_ ?_ _ | with_reducible refine Below.setRow ?_ ?_ _ | with_reducible refine below_step (by assumption) ?_ ?_ | (show (_ : Nat) ≤ _; first | omega | (simp <;> omega)))⟩
  · rw [inkC_no ho]
    simp only [ho] at hO ⊢
    have HO := Lib.hid hO
    clear hO ho
    go_enter Try.func41, Try.ntmps41
    go_wp2_with ((go_at_call 88; refine (HO.out _ _ (by (go_simp <;> (intros; omega))) (by first | omega | (simp <;> omega))).mono ?_; rintro e w1 ⟨rfl, hb1⟩; have r1 := keep_rowA hb1; have f1 := keep_frA hb1; have s1 := hb1.size; (try simp only [World.size_alloc, World.size_setCell, setRow_size, World.size_drew] at r1 f1 s1)))
    refine bodyPost_ret (v := .tuple #[_, .int .i64 1]) (res_tt rfl rfl rfl) rfl ⟨_, rfl, ⟨⟨_, _, rfl⟩, fun h => absurd h (by omega)⟩, by repeat' (first | with_reducible exact Below.refl _ _ | with_reducible assumption | with_reducible refine Below.drew ?_ | with_reducible refine Below.drewN ?_ _ | with_reducible refine Below.alloc ?_ ?_ _ | with_reducible refine Below.setCell ?_ ?_ _ | with_reducible refine Below.setRow ?_ ?_ _ | with_reducible refine below_step (by assumption) ?_ ?_ | (show (_ : Nat) ≤ _; first | omega | (simp <;> omega)))⟩
end Go.Proofs.Ytigiooollonmjaa
