/- What marks show in an order, as a map from places: the law of such keys, and what stands at a place. -/
import Derived.Test.YtejnejplofddnaaGreatDoorPntS
import Derived.Maps.OwnOps
import Derived.Maps.Views
import Derived.DeepKeys4
namespace Go.Proofs.YtejnejplofddnaaGreatDoor
open Go.RowKit Go.Maps
set_option linter.unusedVariables false
set_option linter.unusedSimpArgs false
set_option maxRecDepth 100000
/-- A place as a key. -/
def kyL (x y : Nat) : Lit := .string [UInt8.ofNat x, UInt8.ofNat y]
theorem kyL_inj {x y a b : Nat} (hx : x < 8) (hy : y < 8) (ha : a < 8) (hb : b < 8) (h : kyL x y = kyL a b) : x = a ∧ y = b := by
  unfold kyL at h
  simp only [Lit.string.injEq, List.cons.injEq, and_true] at h
  have h1 := congrArg UInt8.toNat h.1
  have h2 := congrArg UInt8.toNat h.2
  simp only [UInt8.toNat_ofNat'] at h1 h2
  omega
/-- The datum says at each place what the grid shows there. -/
def MapIs (D : DataW Unit) (G : Nat → Int) : Prop := IsMap D ∧ ∀ x y : Nat, x < 8 → y < 8 → D.atKey (kyL x y) (.lit (.int .i8 0)) = .lit (.int .i8 (G (y * 8 + x)))
theorem map_start : MapIs (.map []) fun _ => 0 := ⟨isMap_empty, fun x y _ _ => rfl⟩
theorem map_put {D : DataW Unit} {G : Nat → Int} (h : MapIs D G) {x y : Nat} (hx : x < 8) (hy : y < 8) (v : Int) : MapIs (D.put (kyL x y) (.lit (.int .i8 v))) (upI G (y * 8 + x) v) := by
  refine ⟨h.1.put _ _, fun a b ha hb => ?_⟩
  by_cases he : kyL a b = kyL x y
  · obtain ⟨h1, h2⟩ := kyL_inj ha hb hx hy he
    rw [he, atKey_put_same h.1 (show WideAt.IsKeyLit (kyL x y) from trivial)]
    unfold upI
    rw [h1, h2, if_pos rfl]
  · rw [atKey_put_other he, h.2 a b ha hb]
    unfold upI
    rw [if_neg (fun e => he (by
      have h1 : a = x := by omega
      have h2 : b = y := by omega
      rw [h1, h2]))]
theorem grown_rowM {w w' : World} {M b : Nat} (h : w.grownBy w' (some M)) (hb : b < w.heap.size) (hne : b ≠ M) : rowOf w' b = rowOf w b := by
  unfold rowOf
  rw [h.block b hb (by simpa using hne)]
theorem grown_frM {w w' : World} {M b : Nat} (h : w.grownBy w' (some M)) (hb : b < w.heap.size) (hne : b ≠ M) : frOf w' b = frOf w b := by
  unfold frOf
  rw [h.block b hb (by simpa using hne)]
theorem ky_one (x y : Nat) (hx : x < 8) (hy : y < 8) : keyOf Tryz.prog 59 (.agg #[.int .i8 (x : Int), .int .i8 (y : Int)]) = some (kyL x y) := by
  have h : ((List.range 8).all fun x => (List.range 8).all fun y => match keyOf Tryz.prog 59 (.agg #[.int .i8 (x : Int), .int .i8 (y : Int)]) with | some (.string bs) => bs == [UInt8.ofNat x, UInt8.ofNat y] | _ => false) = true := by kernel_rfl
  rw [List.all_eq_true] at h
  have h1 := h x (List.mem_range.2 hx)
  rw [List.all_eq_true] at h1
  have h2 := h1 y (List.mem_range.2 hy)
  split at h2
  · rename_i bs e
    rw [e]
    unfold kyL
    rw [eq_of_beq h2]
  · cases h2
theorem spot_keys : Keyed Tryz.prog 59 := Keyed.of_law (deep_law_laid (m := 4) (by kernel_rfl) (by omega) (of_decide_eq_true (by kernel_rfl)) (by kernel_rfl) (by kernel_rfl))
theorem zero_i8 (w : World) : (zeroValue 24).run Tryz.prog w = .ok (.int .i8 0) w := by kernel_rfl
end Go.Proofs.YtejnejplofddnaaGreatDoor
