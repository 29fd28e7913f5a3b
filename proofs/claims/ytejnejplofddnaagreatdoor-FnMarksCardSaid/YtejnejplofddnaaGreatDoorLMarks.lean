/- The statement FnMarks: for every two slices of bytes the call returns true. The laid tables are tied to the program's text. -/
import Derived.Test.YtejnejplofddnaaGreatDoorCards
import Derived.Test.YtejnejplofddnaaGreatDoorTie
import Derived.Test.YtejnejplofddnaaGreatDoorFnW
import Derived.Test.YtejnejplofddnaaGreatDoorWrap
import Derived.Test.YtejnejplofddnaaGreatDoorShapes
import Derived.Test.YtejnejplofddnaaGreatDoorOpen
import Derived.LaidMore
import Derived.Lay
import Derived.SevenTiedAt
import Derived.Stop.Joined
namespace Go.Proofs.YtejnejplofddnaaGreatDoor
open Go.RowKit Go.ChangeShapes Go.WideShapes Go.ChangeAt
set_option linter.unusedVariables false
set_option linter.unusedSimpArgs false
set_option maxRecDepth 100000
theorem FnMarks_walk (v0 : Value) (n0 : Nat) (f0 : Nat → Int) (hn0 : n0 ≤ 9223372036854775807) (hw0 : ∀ j, j < n0 * 1 → (Lit.int .u8 (f0 j)).wf = true) (v1 : Value) (n1 : Nat) (f1 : Nat → Int) (hn1 : n1 ≤ 9223372036854775807) (hw1 : ∀ j, j < n1 * 1 → (Lit.int .u8 (f1 j)).wf = true) (w : World) (h0 : SlA .u8 1 w v0 n0 f0) (h1 : SlA .u8 1 w v1 n1 f1) (hL : laidMetH Tryz.prog Rows.fnMarksRow.laid w) (hSh : w.ShapedOpen Tryz.prog) :
    Calls Tryz.prog 3 #[v0, v1] w fun e w' => e = .returned (.bool true) ∧ Below w.heap.size w w' := by
  rw [MakeChecks.laidMetH_plain _ _ _ (by kernel_rfl)] at hL
  obtain ⟨a0, c0, rfl⟩ := h0.len
  obtain ⟨a1, c1, rfl⟩ := h1.len
  exact fnMarks_any a0 a1 n0 n1 c0 c1 w (codeIn_of h0 hn0 hw0) (codeIn_of h1 hn1 hw1) (MxW.of hSh) (RdW.of hSh (hL.tail.tail.tail.tail.tail) (hL.tail.tail.tail.tail))
namespace fnMarks
theorem own : ownKnob Tryz.prog.godebug = none := by kernel_rfl
set_option maxRecDepth 100000 in
theorem lifted (os : Os) (started : os.Started) (H : Type) (enc : TypeId × Value → H) :
    ReturnsInHanded {} Tryz.checked os 3 .any (fun w args => (Rows.fnMarksSpec.pre enc Tryz.prog Tryz.f3 Rows.fnMarksRow.domain false w args ∧ laidMetH Tryz.prog Rows.fnMarksRow.laid w) ∧ sizedMet enc Tryz.prog Tryz.f3 (OpenSpec.ofChange Rows.fnMarksSpec) false w args)
      (Rows.fnMarksSpec.post enc Tryz.prog Tryz.f3 false true false false) := by
  refine wrap_both (C := Tryz.checked) (X := fun w _ => laidMetH Tryz.prog Rows.fnMarksRow.laid w) (fun _ _ _ hh h => h.of_heap hh) own started (by kernel_rfl) Tryz.func3
    (ChangeSpec.witness_shaped (enc := enc) (C := Tryz.checked) (os := os) (X := fun w _ => laidMetH Tryz.prog Rows.fnMarksRow.laid w) false (World.laidAll Tryz.prog os Rows.fnMarksRow.laid) #[.slice none 0 0, .slice none 0 0] 8 (World.laidAll_os _ _ _)
      (World.shaped_of_ZipB (by kernel_rfl) (by kernel_rfl)) (by kernel_rfl) (by kernel_rfl) (by kernel_rfl)
      (by rw [MakeChecks.laidMetH_plain _ _ _ (by kernel_rfl)]; exact laidMet_laidAll _ (by kernel_rfl) (by kernel_rfl))) ?_
  intro W base args ds gs before hval0 hW hcnd _ hL hSh
  have hval : ∀ (j : Nat) t v, Tryz.f3.params[j]? = some t → args[j]? = some v → Value.okWide Tryz.prog W .any base t v := hval0
  have hW' := hW
  obtain ⟨p, q, hA0, hV, hpq, hfz, hnd⟩ := hW
  have hA : DataW.TrodAll enc Tryz.prog W 0 (fun _ => true) true Tryz.f3.params.toList args.toList ds p := hA0
  rw [Tryz.params3] at hA hval
  obtain ⟨v0, vs0, d0, ds0, p0, q0, hargs, hd0, hp0, h0, r0⟩ := trodAll_cons hA
  obtain ⟨v1, vs1, d1, ds1, p1, q1, rfl, hd1, hp1, h1, r1⟩ := trodAll_cons r0
  obtain ⟨rfl, hdn, hpn⟩ := trodAll_nil r1
  obtain rfl : args = #[v0, v1] := by cases args; simp_all
  clear hA0 hval0 hA
  obtain ⟨n0, f0, hs0, hn0, hw0⟩ := open_slA (k := .u8) (s := 1) Tryz.underlying22 (by kernel_rfl) (by decide) (hval 0 22 v0 rfl rfl) h0
  obtain ⟨n1, f1, hs1, hn1, hw1⟩ := open_slA (k := .u8) (s := 1) Tryz.underlying22 (by kernel_rfl) (by decide) (hval 1 22 v1 rfl rfl) h1
  exact (FnMarks_walk v0 n0 f0 hn0 hw0 v1 n1 f1 hn1 hw1 W hs0 hs1 hL hSh).mono fun e W' ⟨he, hb⟩ => ⟨_, he, law_post (by kernel_rfl) (by kernel_rfl) rfl rfl Tryz.underlying4 (fun ds h => by match ds, h with | [d0, d1], _ => rfl) hW' hb⟩
theorem over : Rows.fnMarksRow.holds Tryz.pinned (OpenSpec.ofChange Rows.fnMarksSpec) :=
  OpenClaim.holds_of_wide 3 Tryz.f3 rfl rfl rfl rfl rfl rfl rfl ⟨rfl, rfl, rfl, rfl, rfl⟩ rfl rfl rfl rfl rfl (by kernel_rfl) Tryz.func3 (by kernel_rfl)
    (of_decide_eq_true (by kernel_rfl)) (by unfold Func.isWrapper; rw [if_neg (of_decide_eq_false (by kernel_rfl))]; exact ⟨rfl, rfl⟩)
    (fun os started H enc _ => lifted os started H enc)
theorem proved : Rows.FnMarksCardSaid :=
  Claim7.holds_tied_plain_at .later [] [.data, .data, .data, .data, .sentinel, .sentinel, .pinned] true _ true over (fun _ h => by cases h) (by kernel_rfl) (fun _ h => by cases h) fnMarks_row_tie rfl ⟨rfl, rfl⟩ (by kernel_rfl) rfl
    (fun f fn hf hfn => by
      obtain rfl : f = 3 := Option.some.inj ((show Tryz.prog.funcNamed "loop.example/g01360/laws.FnMarks" = some 3 by kernel_rfl).symm.trans hf) |>.symm
      obtain rfl : fn = Tryz.f3 := (Option.some.inj (Tryz.func3.symm.trans hfn)).symm
      exact ⟨by kernel_rfl, fun j t ht => by
        have hm : t ∈ Tryz.f3.params.toList := Array.mem_toList_iff.2 (Array.mem_of_getElem? ht)
        have hall : (Tryz.f3.params.toList.all fun u => !Tryz.prog.wantsStandIn u) = true := by kernel_rfl
        exact (show Tryz.prog.wantsStandIn t = false by simpa using List.all_eq_true.1 hall t hm)⟩)
    (by kernel_rfl)
#print axioms proved
end fnMarks
end Go.Proofs.YtejnejplofddnaaGreatDoor
