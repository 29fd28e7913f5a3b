/- slices.Sorted(slices.Values(order)) at int64. -/
import Derived.Test.YtejnejplofddnaaGreatDoorVals
import Derived.Test.YtejnejplofddnaaGreatDoorShelfS
import Derived.Shelf.SortM.Plain
import Derived.Shelf.SortM.SortNone
import Derived.Shelf.SlIterI.Sorted
import Derived.Lib.Hide
namespace Go.Proofs.YtejnejplofddnaaGreatDoor
open Go.RowKit Go.Shelf Go.Sort
set_option linter.unusedVariables false
set_option linter.unusedSimpArgs false
set_option maxRecDepth 100000
theorem values_any (a : Option Addr) (len cap : Nat) (w : World) : Calls Tryz.prog 42 #[.slice a len cap] w fun e w' => e = .returned (.func (.func 89) #[] #[.pointer (some ⟨w.heap.size, 0, none⟩)]) ∧ w' = w.alloc (.cells #[.slice a len cap] 37) :=
  (callsIn_wide (n := 1)).1 (values_in Fence.wide 1 trivial rfl a len cap w)
theorem appendSeq_any (Bs : Nat) (sv : Value) (zs : List Int) (hlen : zs.length ≤ 1048576) (w : World) (hBs : Bs < w.heap.size) (hc : w.cell? ⟨Bs, 0, none⟩ = some sv) (hI : IntsV w.heap.size w sv zs) :
    Calls Tryz.prog 122 #[.slice none 0 0, .func (.func 89) #[] #[.pointer (some ⟨Bs, 0, none⟩)]] w fun e W' => ∃ v, e = .returned v ∧ W'.ownsRow w.heap.size 2 1 v zs.length (zs.map (Value.int .i64)) ∧ Below w.heap.size w W' :=
  (callsIn_wide (n := 3)).1 (appendSeq_in Fence.wide 3 trivial trivial rfl (by omega) Bs sv zs hlen w hBs hc hI)
theorem collect_any (Bs : Nat) (sv : Value) (zs : List Int) (hlen : zs.length ≤ 1048576) (w : World) (hBs : Bs < w.heap.size) (hc : w.cell? ⟨Bs, 0, none⟩ = some sv) (hI : IntsV w.heap.size w sv zs) :
    Calls Tryz.prog 87 #[.func (.func 89) #[] #[.pointer (some ⟨Bs, 0, none⟩)]] w fun e W' => ∃ v, e = .returned v ∧ W'.ownsRow w.heap.size 2 1 v zs.length (zs.map (Value.int .i64)) ∧ Below w.heap.size w W' := by
  have HA := Lib.hid (appendSeq_any Bs sv zs hlen w hBs hc hI)
  clear hc hI
  go_enter Tryz.func87, Tryz.ntmps87
  go_wp2_with (go_at_call 122; refine HA.out.mono ?_; rintro e w1 ⟨v, rfl, hown, hb⟩)
  go_ret
  exact ⟨v, rfl, hown, hb⟩
/-- The numbers, sorted. -/
def srtV (zs : List Int) : List Int := zs.mergeSort fun x y => decide (x ≤ y)
theorem sorted_any (Bs : Nat) (sv : Value) (zs : List Int) (hlen : zs.length ≤ 1048576) (w : World) (hBs : Bs < w.heap.size) (hc : w.cell? ⟨Bs, 0, none⟩ = some sv) (hI : IntsV w.heap.size w sv zs) :
    Calls Tryz.prog 41 #[.func (.func 89) #[] #[.pointer (some ⟨Bs, 0, none⟩)]] w fun e W' => ∃ v, e = .returned v ∧ W'.ownsRow w.heap.size 2 1 v zs.length ((srtV zs).map (Value.int .i64)) ∧ Below w.heap.size w W' := by
  have HA := Lib.hid (collect_any Bs sv zs hlen w hBs hc hI)
  have HS := Lib.hid (fun blk off cap w hH hblk => AnyM.slices_Sort_int Tryz.sortI blk off cap zs w hH hblk (by omega))
  have HN := Lib.hid (fun p cap w => AnyM.slices_Sort_int_none Tryz.sortI p cap w)
  clear hc hI
  go_enter Tryz.func41, Tryz.ntmps41
  go_wp2_with (go_at_call 87; refine HA.out.mono ?_; rintro e w1 ⟨v, rfl, hown, hb⟩)
  rcases hown.2 with ⟨rfl, hz⟩ | ⟨gb, cap, cur, rfl, hbase, hgb, r1, r2, r3, r4⟩
  · have h0 : zs = [] := List.eq_nil_of_length_eq_zero hz
    subst h0
    go_wp2_with (go_at_call 88; refine (HN.out none 0 _).mono ?_; rintro e w2 ⟨rfl, rfl⟩)
    go_ret
    exact ⟨_, rfl, by simpa [srtV] using hown, hb⟩
  · have hH : Holds encZ w1 gb 0 zs.toArray := holds_of_block_i hgb (by simpa using r4)
    have hgl : gb < w1.heap.size := (Array.getElem?_eq_some_iff.1 hgb).1
    go_wp2_with (go_at_call 88; refine (HS.out gb 0 cap w1 hH hgl).mono ?_; rintro e w2 ⟨rfl, nn, os, rfl⟩)
    go_ret
    exact ⟨_, rfl, ownsRow_sorted_i (by simp) hbase hgb r1 r2 r3, hb.grown (grownBy_sorted_i _) hb.size (fun j hj => by cases hj; exact hbase)⟩
theorem srt_facts (zs : List Int) : (zs.mergeSort fun x y => decide (x ≤ y)).Perm zs ∧ (zs.mergeSort fun x y => decide (x ≤ y)).Pairwise (· ≤ ·) := by
  refine ⟨List.mergeSort_perm _ _, ?_⟩
  have h := List.pairwise_mergeSort (le := fun x y : Int => decide (x ≤ y)) (fun a b c h1 h2 => by simp at *; omega) (fun a b => by simp; omega) zs
  exact h.imp (fun h => by simpa using h)
end Go.Proofs.YtejnejplofddnaaGreatDoor
