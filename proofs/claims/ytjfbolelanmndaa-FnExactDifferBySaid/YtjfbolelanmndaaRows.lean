/-
  No cell of these rows narrows 'for every input' (looked for: loops, veiled, ifaces, maps, wideKeys, modest, calm, conditions, laid).
  DERIVED. THE GIVEN ROWS OF THIS SEAT. 12 by the template 'for every input the law returns true; each argument reads behind the call as it read before'; 0 by the template 'total and deterministic' (their statements: YtjfbolelanmndaaTotals.lean).
  GIVEN WITH THE SEED: the statements are not yours to turn. If you find one false, say at which input.
  Laid BY PROGRAM, IN A SANDBOX (cutbox-rows.mjs): the forced cells as the released guide's own fill.sh prints them over the translation 38de4b9d09f6fe20… (all of the seat's roots in one cut). By AI agents, Wed Nov 11 2026. No macro, syntax, notation, axiom, sorry.
-/
import Derived.Test.YtjfbolelanmndaaChecked
import GoSem.Claim
import GoSem.ClaimJoined
import GoSem.ClaimMapViews
import Derived.JoinedTies
import Derived.KernelRfl
namespace Go.Proofs.Ytjfbolelanmndaa
/- THE CELL 'sum', in the pinned program and in every row, IS THE sha256 OF THE DUMP (.gsa) THAT YtjfbolelanmndaaProg.lean LOADS. Nothing in Lean hashes anything: it is a label: what it is worth is what the hold of that sum in a sandbox is worth. -/
noncomputable def Try.pinned : Pinned := { name := "ytjfbolelanmndaa", sum := "38de4b9d09f6fe20191bf4ab10eeda6839e0479f8ac275f08b51b79dbe3828d3", checked := Try.checked }
namespace Rows
def none {H : Type} : Left H := { results := [], args := [] }

/-- 'laws.FnExactValidSheet': WHATEVER THE INPUT: true; the input reads as it did. -/
def fnExactValidSheetSpec : ChangeSpec := { name := "fnExactValidSheet", fn := fun _ => fun
  | [d] => { results := [.lit (.bool true)], args := [d] }
  | _ => none }
def fnExactValidSheetRow : OpenClaim := { program := "ytjfbolelanmndaa", sum := "38de4b9d09f6fe20191bf4ab10eeda6839e0479f8ac275f08b51b79dbe3828d3", func := "loop.example/g01360/laws.FnExactValidSheet", spec := "fnExactValidSheet", apart := false }
def FnExactValidSheetSaid : Prop := fnExactValidSheetRow.holds Try.pinned (OpenSpec.ofChange fnExactValidSheetSpec)

/-- ITS FALSE NEIGHBOUR: 'it returns false'. Refute it at one input. -/
def fnExactValidSheetWrong : ChangeSpec := { name := "fnExactValidSheet", fn := fun _ => fun
  | [d] => { results := [.lit (.bool false)], args := [d] }
  | _ => none }
def FnExactValidSheetWrongFalsely : Prop := fnExactValidSheetRow.holds Try.pinned (OpenSpec.ofChange fnExactValidSheetWrong)

/-- 'laws.FnExactIsWaxed': WHATEVER THE INPUT: true; the input reads as it did. -/
def fnExactIsWaxedSpec : ChangeSpec := { name := "fnExactIsWaxed", fn := fun _ => fun
  | [d1, d2] => { results := [.lit (.bool true)], args := [d1, d2] }
  | _ => none }
def fnExactIsWaxedRow : OpenClaim := { program := "ytjfbolelanmndaa", sum := "38de4b9d09f6fe20191bf4ab10eeda6839e0479f8ac275f08b51b79dbe3828d3", func := "loop.example/g01360/laws.FnExactIsWaxed", spec := "fnExactIsWaxed", apart := false }
def FnExactIsWaxedSaid : Prop := fnExactIsWaxedRow.holds Try.pinned (OpenSpec.ofChange fnExactIsWaxedSpec)

/-- ITS FALSE NEIGHBOUR: 'it returns false'. Refute it at one input. -/
def fnExactIsWaxedWrong : ChangeSpec := { name := "fnExactIsWaxed", fn := fun _ => fun
  | [d1, d2] => { results := [.lit (.bool false)], args := [d1, d2] }
  | _ => none }
def FnExactIsWaxedWrongFalsely : Prop := fnExactIsWaxedRow.holds Try.pinned (OpenSpec.ofChange fnExactIsWaxedWrong)

/-- 'laws.FnExactWetAt': WHATEVER THE INPUT: true; the input reads as it did. -/
def fnExactWetAtSpec : ChangeSpec := { name := "fnExactWetAt", fn := fun _ => fun
  | [d1, d2] => { results := [.lit (.bool true)], args := [d1, d2] }
  | _ => none }
def fnExactWetAtRow : OpenClaim := { program := "ytjfbolelanmndaa", sum := "38de4b9d09f6fe20191bf4ab10eeda6839e0479f8ac275f08b51b79dbe3828d3", func := "loop.example/g01360/laws.FnExactWetAt", spec := "fnExactWetAt", apart := false }
def FnExactWetAtSaid : Prop := fnExactWetAtRow.holds Try.pinned (OpenSpec.ofChange fnExactWetAtSpec)

/-- ITS FALSE NEIGHBOUR: 'it returns false'. Refute it at one input. -/
def fnExactWetAtWrong : ChangeSpec := { name := "fnExactWetAt", fn := fun _ => fun
  | [d1, d2] => { results := [.lit (.bool false)], args := [d1, d2] }
  | _ => none }
def FnExactWetAtWrongFalsely : Prop := fnExactWetAtRow.holds Try.pinned (OpenSpec.ofChange fnExactWetAtWrong)

/-- 'laws.FnExactDyeAt': WHATEVER THE INPUT: true; the input reads as it did. -/
def fnExactDyeAtSpec : ChangeSpec := { name := "fnExactDyeAt", fn := fun _ => fun
  | [d1, d2, d3] => { results := [.lit (.bool true)], args := [d1, d2, d3] }
  | _ => none }
def fnExactDyeAtRow : OpenClaim := { program := "ytjfbolelanmndaa", sum := "38de4b9d09f6fe20191bf4ab10eeda6839e0479f8ac275f08b51b79dbe3828d3", func := "loop.example/g01360/laws.FnExactDyeAt", spec := "fnExactDyeAt", apart := false }
def FnExactDyeAtSaid : Prop := fnExactDyeAtRow.holds Try.pinned (OpenSpec.ofChange fnExactDyeAtSpec)

/-- ITS FALSE NEIGHBOUR: 'it returns false'. Refute it at one input. -/
def fnExactDyeAtWrong : ChangeSpec := { name := "fnExactDyeAt", fn := fun _ => fun
  | [d1, d2, d3] => { results := [.lit (.bool false)], args := [d1, d2, d3] }
  | _ => none }
def FnExactDyeAtWrongFalsely : Prop := fnExactDyeAtRow.holds Try.pinned (OpenSpec.ofChange fnExactDyeAtWrong)

/-- 'laws.FnExactDarkAt': WHATEVER THE INPUT: true; the input reads as it did. -/
def fnExactDarkAtSpec : ChangeSpec := { name := "fnExactDarkAt", fn := fun _ => fun
  | [d1, d2] => { results := [.lit (.bool true)], args := [d1, d2] }
  | _ => none }
def fnExactDarkAtRow : OpenClaim := { program := "ytjfbolelanmndaa", sum := "38de4b9d09f6fe20191bf4ab10eeda6839e0479f8ac275f08b51b79dbe3828d3", func := "loop.example/g01360/laws.FnExactDarkAt", spec := "fnExactDarkAt", apart := false }
def FnExactDarkAtSaid : Prop := fnExactDarkAtRow.holds Try.pinned (OpenSpec.ofChange fnExactDarkAtSpec)

/-- ITS FALSE NEIGHBOUR: 'it returns false'. Refute it at one input. -/
def fnExactDarkAtWrong : ChangeSpec := { name := "fnExactDarkAt", fn := fun _ => fun
  | [d1, d2] => { results := [.lit (.bool false)], args := [d1, d2] }
  | _ => none }
def FnExactDarkAtWrongFalsely : Prop := fnExactDarkAtRow.holds Try.pinned (OpenSpec.ofChange fnExactDarkAtWrong)

/-- 'laws.FnExactWaterIn': WHATEVER THE INPUT: true; the input reads as it did. -/
def fnExactWaterInSpec : ChangeSpec := { name := "fnExactWaterIn", fn := fun _ => fun
  | [d] => { results := [.lit (.bool true)], args := [d] }
  | _ => none }
def fnExactWaterInRow : OpenClaim := { program := "ytjfbolelanmndaa", sum := "38de4b9d09f6fe20191bf4ab10eeda6839e0479f8ac275f08b51b79dbe3828d3", func := "loop.example/g01360/laws.FnExactWaterIn", spec := "fnExactWaterIn", apart := false }
def FnExactWaterInSaid : Prop := fnExactWaterInRow.holds Try.pinned (OpenSpec.ofChange fnExactWaterInSpec)

/-- ITS FALSE NEIGHBOUR: 'it returns false'. Refute it at one input. -/
def fnExactWaterInWrong : ChangeSpec := { name := "fnExactWaterIn", fn := fun _ => fun
  | [d] => { results := [.lit (.bool false)], args := [d] }
  | _ => none }
def FnExactWaterInWrongFalsely : Prop := fnExactWaterInRow.holds Try.pinned (OpenSpec.ofChange fnExactWaterInWrong)

/-- 'laws.FnExactDifferBy': WHATEVER THE INPUT: true; the input reads as it did. -/
def fnExactDifferBySpec : ChangeSpec := { name := "fnExactDifferBy", fn := fun _ => fun
  | [d1, d2] => { results := [.lit (.bool true)], args := [d1, d2] }
  | _ => none }
def fnExactDifferByRow : OpenClaim := { program := "ytjfbolelanmndaa", sum := "38de4b9d09f6fe20191bf4ab10eeda6839e0479f8ac275f08b51b79dbe3828d3", func := "loop.example/g01360/laws.FnExactDifferBy", spec := "fnExactDifferBy", apart := false }
def FnExactDifferBySaid : Prop := fnExactDifferByRow.holds Try.pinned (OpenSpec.ofChange fnExactDifferBySpec)

/-- ITS FALSE NEIGHBOUR: 'it returns false'. Refute it at one input. -/
def fnExactDifferByWrong : ChangeSpec := { name := "fnExactDifferBy", fn := fun _ => fun
  | [d1, d2] => { results := [.lit (.bool false)], args := [d1, d2] }
  | _ => none }
def FnExactDifferByWrongFalsely : Prop := fnExactDifferByRow.holds Try.pinned (OpenSpec.ofChange fnExactDifferByWrong)

/-- 'laws.FnExactValidFold': WHATEVER THE INPUT: true; the input reads as it did. -/
def fnExactValidFoldSpec : ChangeSpec := { name := "fnExactValidFold", fn := fun _ => fun
  | [d1, d2] => { results := [.lit (.bool true)], args := [d1, d2] }
  | _ => none }
def fnExactValidFoldRow : OpenClaim := { program := "ytjfbolelanmndaa", sum := "38de4b9d09f6fe20191bf4ab10eeda6839e0479f8ac275f08b51b79dbe3828d3", func := "loop.example/g01360/laws.FnExactValidFold", spec := "fnExactValidFold", apart := false }
def FnExactValidFoldSaid : Prop := fnExactValidFoldRow.holds Try.pinned (OpenSpec.ofChange fnExactValidFoldSpec)

/-- ITS FALSE NEIGHBOUR: 'it returns false'. Refute it at one input. -/
def fnExactValidFoldWrong : ChangeSpec := { name := "fnExactValidFold", fn := fun _ => fun
  | [d1, d2] => { results := [.lit (.bool false)], args := [d1, d2] }
  | _ => none }
def FnExactValidFoldWrongFalsely : Prop := fnExactValidFoldRow.holds Try.pinned (OpenSpec.ofChange fnExactValidFoldWrong)

/-- 'laws.FnExactDipBrush': WHATEVER THE INPUT: true; the input reads as it did. -/
def fnExactDipBrushSpec : ChangeSpec := { name := "fnExactDipBrush", fn := fun _ => fun
  | [d1, d2, d3, d4] => { results := [.lit (.bool true)], args := [d1, d2, d3, d4] }
  | _ => none }
def fnExactDipBrushRow : OpenClaim := { program := "ytjfbolelanmndaa", sum := "38de4b9d09f6fe20191bf4ab10eeda6839e0479f8ac275f08b51b79dbe3828d3", func := "loop.example/g01360/laws.FnExactDipBrush", spec := "fnExactDipBrush", apart := false }
def FnExactDipBrushSaid : Prop := fnExactDipBrushRow.holds Try.pinned (OpenSpec.ofChange fnExactDipBrushSpec)

/-- ITS FALSE NEIGHBOUR: 'it returns false'. Refute it at one input. -/
def fnExactDipBrushWrong : ChangeSpec := { name := "fnExactDipBrush", fn := fun _ => fun
  | [d1, d2, d3, d4] => { results := [.lit (.bool false)], args := [d1, d2, d3, d4] }
  | _ => none }
def FnExactDipBrushWrongFalsely : Prop := fnExactDipBrushRow.holds Try.pinned (OpenSpec.ofChange fnExactDipBrushWrong)

/-- 'laws.FnExactMixBrushes': WHATEVER THE INPUT: true; the input reads as it did. -/
def fnExactMixBrushesSpec : ChangeSpec := { name := "fnExactMixBrushes", fn := fun _ => fun
  | [d1, d2] => { results := [.lit (.bool true)], args := [d1, d2] }
  | _ => none }
def fnExactMixBrushesRow : OpenClaim := { program := "ytjfbolelanmndaa", sum := "38de4b9d09f6fe20191bf4ab10eeda6839e0479f8ac275f08b51b79dbe3828d3", func := "loop.example/g01360/laws.FnExactMixBrushes", spec := "fnExactMixBrushes", unfollowed := true, recurses := true, apart := false }
def FnExactMixBrushesSaid : Prop := fnExactMixBrushesRow.holds Try.pinned (OpenSpec.ofChange fnExactMixBrushesSpec)

/-- ITS FALSE NEIGHBOUR: 'it returns false'. Refute it at one input. -/
def fnExactMixBrushesWrong : ChangeSpec := { name := "fnExactMixBrushes", fn := fun _ => fun
  | [d1, d2] => { results := [.lit (.bool false)], args := [d1, d2] }
  | _ => none }
def FnExactMixBrushesWrongFalsely : Prop := fnExactMixBrushesRow.holds Try.pinned (OpenSpec.ofChange fnExactMixBrushesWrong)

/-- 'laws.FnExactLiftCell': WHATEVER THE INPUT: true; the input reads as it did. -/
def fnExactLiftCellSpec : ChangeSpec := { name := "fnExactLiftCell", fn := fun _ => fun
  | [d1, d2, d3, d4] => { results := [.lit (.bool true)], args := [d1, d2, d3, d4] }
  | _ => none }
def fnExactLiftCellRow : OpenClaim := { program := "ytjfbolelanmndaa", sum := "38de4b9d09f6fe20191bf4ab10eeda6839e0479f8ac275f08b51b79dbe3828d3", func := "loop.example/g01360/laws.FnExactLiftCell", spec := "fnExactLiftCell", apart := false }
def FnExactLiftCellSaid : Prop := fnExactLiftCellRow.holds Try.pinned (OpenSpec.ofChange fnExactLiftCellSpec)

/-- ITS FALSE NEIGHBOUR: 'it returns false'. Refute it at one input. -/
def fnExactLiftCellWrong : ChangeSpec := { name := "fnExactLiftCell", fn := fun _ => fun
  | [d1, d2, d3, d4] => { results := [.lit (.bool false)], args := [d1, d2, d3, d4] }
  | _ => none }
def FnExactLiftCellWrongFalsely : Prop := fnExactLiftCellRow.holds Try.pinned (OpenSpec.ofChange fnExactLiftCellWrong)

/-- 'laws.FnExactFromStencils': WHATEVER THE INPUT: true; the input reads as it did. -/
def fnExactFromStencilsSpec : ChangeSpec := { name := "fnExactFromStencils", fn := fun _ => fun
  | [d1, d2, d3] => { results := [.lit (.bool true)], args := [d1, d2, d3] }
  | _ => none }
def fnExactFromStencilsRow : OpenClaim := { program := "ytjfbolelanmndaa", sum := "38de4b9d09f6fe20191bf4ab10eeda6839e0479f8ac275f08b51b79dbe3828d3", func := "loop.example/g01360/laws.FnExactFromStencils", spec := "fnExactFromStencils", apart := false }
def FnExactFromStencilsSaid : Prop := fnExactFromStencilsRow.holds Try.pinned (OpenSpec.ofChange fnExactFromStencilsSpec)

/-- ITS FALSE NEIGHBOUR: 'it returns false'. Refute it at one input. -/
def fnExactFromStencilsWrong : ChangeSpec := { name := "fnExactFromStencils", fn := fun _ => fun
  | [d1, d2, d3] => { results := [.lit (.bool false)], args := [d1, d2, d3] }
  | _ => none }
def FnExactFromStencilsWrongFalsely : Prop := fnExactFromStencilsRow.holds Try.pinned (OpenSpec.ofChange fnExactFromStencilsWrong)

/- THE SECOND FORM. 'bulk': how many values and letters a reading holds, each counted each time it is reached (what is shared counts as often as it is met; a slice's spare places count too). A statement '..UptoSaid' is the law's where the arguments, and the package variables that the reading takes, are together of bulk at most 1048576: NARROWER than '..Said'. Prove '..Said' where nothing that the law and all that it calls make is longer than what came in: it says more and counts as full. Else prove '..UptoSaid'. A law counts once. -/
mutual
def uptoBulk {H : Type} : DataW H → Nat
  | .lit (.string bytes) => bytes.length + 1
  | .lit _ => 1
  | .nil => 1
  | .ptr d => uptoBulk d + 1
  | .slice elems spare => uptoBulkAll elems + uptoBulkAll spare + 1
  | .agg parts => uptoBulkAll parts + 1
  | .iface _ d => uptoBulk d + 1
  | .map entries => uptoBulkEntries entries + 1
  | .held _ => 1
def uptoBulkAll {H : Type} : List (DataW H) → Nat
  | [] => 0
  | d :: r => uptoBulk d + uptoBulkAll r
def uptoBulkEntries {H : Type} : List (Lit × DataW H) → Nat
  | [] => 0
  | x :: r => uptoBulkEntry x + uptoBulkEntries r
def uptoBulkEntry {H : Type} : Lit × DataW H → Nat
  | (.string bytes, d) => bytes.length + uptoBulk d + 1
  | (_, d) => uptoBulk d + 1
 end
def uptoSmall : (H : Type) → List (DataW H) → Bool := fun _ ds => decide (uptoBulkAll ds ≤ 1048576)
def OpenSpec.upto (s : _root_.Go.ChangeSpec) : _root_.Go.OpenSpec := { _root_.Go.OpenSpec.ofChange s with cond := some uptoSmall }

/-- 'laws.FnExactValidSheet', WHERE WHAT IT READS IS OF BULK AT MOST 1048576: true; the input reads as it did. -/
def fnExactValidSheetUptoRow : OpenClaim := { program := "ytjfbolelanmndaa", sum := "38de4b9d09f6fe20191bf4ab10eeda6839e0479f8ac275f08b51b79dbe3828d3", func := "loop.example/g01360/laws.FnExactValidSheet", spec := "fnExactValidSheet", apart := false, narrowed := true }
def FnExactValidSheetUptoSaid : Prop := fnExactValidSheetUptoRow.holds Try.pinned (OpenSpec.upto fnExactValidSheetSpec)

/-- 'laws.FnExactIsWaxed', WHERE WHAT IT READS IS OF BULK AT MOST 1048576: true; the input reads as it did. -/
def fnExactIsWaxedUptoRow : OpenClaim := { program := "ytjfbolelanmndaa", sum := "38de4b9d09f6fe20191bf4ab10eeda6839e0479f8ac275f08b51b79dbe3828d3", func := "loop.example/g01360/laws.FnExactIsWaxed", spec := "fnExactIsWaxed", apart := false, narrowed := true }
def FnExactIsWaxedUptoSaid : Prop := fnExactIsWaxedUptoRow.holds Try.pinned (OpenSpec.upto fnExactIsWaxedSpec)

/-- 'laws.FnExactWetAt', WHERE WHAT IT READS IS OF BULK AT MOST 1048576: true; the input reads as it did. -/
def fnExactWetAtUptoRow : OpenClaim := { program := "ytjfbolelanmndaa", sum := "38de4b9d09f6fe20191bf4ab10eeda6839e0479f8ac275f08b51b79dbe3828d3", func := "loop.example/g01360/laws.FnExactWetAt", spec := "fnExactWetAt", apart := false, narrowed := true }
def FnExactWetAtUptoSaid : Prop := fnExactWetAtUptoRow.holds Try.pinned (OpenSpec.upto fnExactWetAtSpec)

/-- 'laws.FnExactDyeAt', WHERE WHAT IT READS IS OF BULK AT MOST 1048576: true; the input reads as it did. -/
def fnExactDyeAtUptoRow : OpenClaim := { program := "ytjfbolelanmndaa", sum := "38de4b9d09f6fe20191bf4ab10eeda6839e0479f8ac275f08b51b79dbe3828d3", func := "loop.example/g01360/laws.FnExactDyeAt", spec := "fnExactDyeAt", apart := false, narrowed := true }
def FnExactDyeAtUptoSaid : Prop := fnExactDyeAtUptoRow.holds Try.pinned (OpenSpec.upto fnExactDyeAtSpec)

/-- 'laws.FnExactDarkAt', WHERE WHAT IT READS IS OF BULK AT MOST 1048576: true; the input reads as it did. -/
def fnExactDarkAtUptoRow : OpenClaim := { program := "ytjfbolelanmndaa", sum := "38de4b9d09f6fe20191bf4ab10eeda6839e0479f8ac275f08b51b79dbe3828d3", func := "loop.example/g01360/laws.FnExactDarkAt", spec := "fnExactDarkAt", apart := false, narrowed := true }
def FnExactDarkAtUptoSaid : Prop := fnExactDarkAtUptoRow.holds Try.pinned (OpenSpec.upto fnExactDarkAtSpec)

/-- 'laws.FnExactWaterIn', WHERE WHAT IT READS IS OF BULK AT MOST 1048576: true; the input reads as it did. -/
def fnExactWaterInUptoRow : OpenClaim := { program := "ytjfbolelanmndaa", sum := "38de4b9d09f6fe20191bf4ab10eeda6839e0479f8ac275f08b51b79dbe3828d3", func := "loop.example/g01360/laws.FnExactWaterIn", spec := "fnExactWaterIn", apart := false, narrowed := true }
def FnExactWaterInUptoSaid : Prop := fnExactWaterInUptoRow.holds Try.pinned (OpenSpec.upto fnExactWaterInSpec)

/-- 'laws.FnExactDifferBy', WHERE WHAT IT READS IS OF BULK AT MOST 1048576: true; the input reads as it did. -/
def fnExactDifferByUptoRow : OpenClaim := { program := "ytjfbolelanmndaa", sum := "38de4b9d09f6fe20191bf4ab10eeda6839e0479f8ac275f08b51b79dbe3828d3", func := "loop.example/g01360/laws.FnExactDifferBy", spec := "fnExactDifferBy", apart := false, narrowed := true }
def FnExactDifferByUptoSaid : Prop := fnExactDifferByUptoRow.holds Try.pinned (OpenSpec.upto fnExactDifferBySpec)

/-- 'laws.FnExactValidFold', WHERE WHAT IT READS IS OF BULK AT MOST 1048576: true; the input reads as it did. -/
def fnExactValidFoldUptoRow : OpenClaim := { program := "ytjfbolelanmndaa", sum := "38de4b9d09f6fe20191bf4ab10eeda6839e0479f8ac275f08b51b79dbe3828d3", func := "loop.example/g01360/laws.FnExactValidFold", spec := "fnExactValidFold", apart := false, narrowed := true }
def FnExactValidFoldUptoSaid : Prop := fnExactValidFoldUptoRow.holds Try.pinned (OpenSpec.upto fnExactValidFoldSpec)

/-- 'laws.FnExactDipBrush', WHERE WHAT IT READS IS OF BULK AT MOST 1048576: true; the input reads as it did. -/
def fnExactDipBrushUptoRow : OpenClaim := { program := "ytjfbolelanmndaa", sum := "38de4b9d09f6fe20191bf4ab10eeda6839e0479f8ac275f08b51b79dbe3828d3", func := "loop.example/g01360/laws.FnExactDipBrush", spec := "fnExactDipBrush", apart := false, narrowed := true }
def FnExactDipBrushUptoSaid : Prop := fnExactDipBrushUptoRow.holds Try.pinned (OpenSpec.upto fnExactDipBrushSpec)

/-- 'laws.FnExactMixBrushes', WHERE WHAT IT READS IS OF BULK AT MOST 1048576: true; the input reads as it did. -/
def fnExactMixBrushesUptoRow : OpenClaim := { program := "ytjfbolelanmndaa", sum := "38de4b9d09f6fe20191bf4ab10eeda6839e0479f8ac275f08b51b79dbe3828d3", func := "loop.example/g01360/laws.FnExactMixBrushes", spec := "fnExactMixBrushes", unfollowed := true, recurses := true, apart := false, narrowed := true }
def FnExactMixBrushesUptoSaid : Prop := fnExactMixBrushesUptoRow.holds Try.pinned (OpenSpec.upto fnExactMixBrushesSpec)

/-- 'laws.FnExactLiftCell', WHERE WHAT IT READS IS OF BULK AT MOST 1048576: true; the input reads as it did. -/
def fnExactLiftCellUptoRow : OpenClaim := { program := "ytjfbolelanmndaa", sum := "38de4b9d09f6fe20191bf4ab10eeda6839e0479f8ac275f08b51b79dbe3828d3", func := "loop.example/g01360/laws.FnExactLiftCell", spec := "fnExactLiftCell", apart := false, narrowed := true }
def FnExactLiftCellUptoSaid : Prop := fnExactLiftCellUptoRow.holds Try.pinned (OpenSpec.upto fnExactLiftCellSpec)

/-- 'laws.FnExactFromStencils', WHERE WHAT IT READS IS OF BULK AT MOST 1048576: true; the input reads as it did. -/
def fnExactFromStencilsUptoRow : OpenClaim := { program := "ytjfbolelanmndaa", sum := "38de4b9d09f6fe20191bf4ab10eeda6839e0479f8ac275f08b51b79dbe3828d3", func := "loop.example/g01360/laws.FnExactFromStencils", spec := "fnExactFromStencils", apart := false, narrowed := true }
def FnExactFromStencilsUptoSaid : Prop := fnExactFromStencilsUptoRow.holds Try.pinned (OpenSpec.upto fnExactFromStencilsSpec)

end Rows
end Go.Proofs.Ytjfbolelanmndaa
