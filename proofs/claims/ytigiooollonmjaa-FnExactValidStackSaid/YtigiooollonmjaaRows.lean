/-
  No cell of these rows narrows 'for every input' (looked for: loops, veiled, ifaces, maps, wideKeys, modest, calm, conditions, laid).
  DERIVED. THE GIVEN ROWS OF THIS SEAT. 12 by the template 'for every input the law returns true; each argument reads behind the call as it read before'; 0 by the template 'total and deterministic' (their statements: YtigiooollonmjaaTotals.lean).
  GIVEN WITH THE SEED: the statements are not yours to turn. If you find one false, say at which input.
  Laid BY PROGRAM, IN A SANDBOX (cutbox-rows.mjs): the forced cells as the released guide's own fill.sh prints them over the translation e1825886e9998831… (all of the seat's roots in one cut). By AI agents, Wed Nov 11 2026. No macro, syntax, notation, axiom, sorry.
-/
import Derived.Test.YtigiooollonmjaaChecked
import GoSem.Claim
import GoSem.ClaimJoined
import GoSem.ClaimMapViews
import Derived.JoinedTies
import Derived.KernelRfl
namespace Go.Proofs.Ytigiooollonmjaa
/- THE CELL 'sum', in the pinned program and in every row, IS THE sha256 OF THE DUMP (.gsa) THAT YtigiooollonmjaaProg.lean LOADS. Nothing in Lean hashes anything: it is a label: what it is worth is what the hold of that sum in a sandbox is worth. -/
noncomputable def Try.pinned : Pinned := { name := "ytigiooollonmjaa", sum := "e1825886e99988310f33dad87a44e6d41699b7490cacd64d756ad20dd7dc49bc", checked := Try.checked }
namespace Rows
def none {H : Type} : Left H := { results := [], args := [] }

/-- 'laws.FnExactMixBrushes': WHATEVER THE INPUT: true; the input reads as it did. -/
def fnExactMixBrushesSpec : ChangeSpec := { name := "fnExactMixBrushes", fn := fun _ => fun
  | [d1, d2] => { results := [.lit (.bool true)], args := [d1, d2] }
  | _ => none }
def fnExactMixBrushesRow : OpenClaim := { program := "ytigiooollonmjaa", sum := "e1825886e99988310f33dad87a44e6d41699b7490cacd64d756ad20dd7dc49bc", func := "loop.example/g01360/laws.FnExactMixBrushes", spec := "fnExactMixBrushes", unfollowed := true, recurses := true, apart := false }
def FnExactMixBrushesSaid : Prop := fnExactMixBrushesRow.holds Try.pinned (OpenSpec.ofChange fnExactMixBrushesSpec)

/-- ITS FALSE NEIGHBOUR: 'it returns false'. Refute it at one input. -/
def fnExactMixBrushesWrong : ChangeSpec := { name := "fnExactMixBrushes", fn := fun _ => fun
  | [d1, d2] => { results := [.lit (.bool false)], args := [d1, d2] }
  | _ => none }
def FnExactMixBrushesWrongFalsely : Prop := fnExactMixBrushesRow.holds Try.pinned (OpenSpec.ofChange fnExactMixBrushesWrong)

/-- 'laws.FnExactLiftCell': WHATEVER THE INPUT: true; the input reads as it did. -/
def fnExactLiftCellSpec : ChangeSpec := { name := "fnExactLiftCell", fn := fun _ => fun
  | [d1, d2, d3, d4] => { results := [.lit (.bool true)], args := [d1, d2, d3, d4] }
  | _ => none }
def fnExactLiftCellRow : OpenClaim := { program := "ytigiooollonmjaa", sum := "e1825886e99988310f33dad87a44e6d41699b7490cacd64d756ad20dd7dc49bc", func := "loop.example/g01360/laws.FnExactLiftCell", spec := "fnExactLiftCell", apart := false }
def FnExactLiftCellSaid : Prop := fnExactLiftCellRow.holds Try.pinned (OpenSpec.ofChange fnExactLiftCellSpec)

/-- ITS FALSE NEIGHBOUR: 'it returns false'. Refute it at one input. -/
def fnExactLiftCellWrong : ChangeSpec := { name := "fnExactLiftCell", fn := fun _ => fun
  | [d1, d2, d3, d4] => { results := [.lit (.bool false)], args := [d1, d2, d3, d4] }
  | _ => none }
def FnExactLiftCellWrongFalsely : Prop := fnExactLiftCellRow.holds Try.pinned (OpenSpec.ofChange fnExactLiftCellWrong)

/-- 'laws.FnExactFromStencils': WHATEVER THE INPUT: true; the input reads as it did. -/
def fnExactFromStencilsSpec : ChangeSpec := { name := "fnExactFromStencils", fn := fun _ => fun
  | [d1, d2, d3] => { results := [.lit (.bool true)], args := [d1, d2, d3] }
  | _ => none }
def fnExactFromStencilsRow : OpenClaim := { program := "ytigiooollonmjaa", sum := "e1825886e99988310f33dad87a44e6d41699b7490cacd64d756ad20dd7dc49bc", func := "loop.example/g01360/laws.FnExactFromStencils", spec := "fnExactFromStencils", apart := false }
def FnExactFromStencilsSaid : Prop := fnExactFromStencilsRow.holds Try.pinned (OpenSpec.ofChange fnExactFromStencilsSpec)

/-- ITS FALSE NEIGHBOUR: 'it returns false'. Refute it at one input. -/
def fnExactFromStencilsWrong : ChangeSpec := { name := "fnExactFromStencils", fn := fun _ => fun
  | [d1, d2, d3] => { results := [.lit (.bool false)], args := [d1, d2, d3] }
  | _ => none }
def FnExactFromStencilsWrongFalsely : Prop := fnExactFromStencilsRow.holds Try.pinned (OpenSpec.ofChange fnExactFromStencilsWrong)

/-- 'laws.FnExactMixFor': WHATEVER THE INPUT: true; the input reads as it did. -/
def fnExactMixForSpec : ChangeSpec := { name := "fnExactMixFor", fn := fun _ => fun
  | [d1, d2] => { results := [.lit (.bool true)], args := [d1, d2] }
  | _ => none }
def fnExactMixForRow : OpenClaim := { program := "ytigiooollonmjaa", sum := "e1825886e99988310f33dad87a44e6d41699b7490cacd64d756ad20dd7dc49bc", func := "loop.example/g01360/laws.FnExactMixFor", spec := "fnExactMixFor", apart := false }
def FnExactMixForSaid : Prop := fnExactMixForRow.holds Try.pinned (OpenSpec.ofChange fnExactMixForSpec)

/-- ITS FALSE NEIGHBOUR: 'it returns false'. Refute it at one input. -/
def fnExactMixForWrong : ChangeSpec := { name := "fnExactMixFor", fn := fun _ => fun
  | [d1, d2] => { results := [.lit (.bool false)], args := [d1, d2] }
  | _ => none }
def FnExactMixForWrongFalsely : Prop := fnExactMixForRow.holds Try.pinned (OpenSpec.ofChange fnExactMixForWrong)

/-- 'laws.FnExactCountInk': WHATEVER THE INPUT: true; the input reads as it did. -/
def fnExactCountInkSpec : ChangeSpec := { name := "fnExactCountInk", fn := fun _ => fun
  | [d1, d2] => { results := [.lit (.bool true)], args := [d1, d2] }
  | _ => none }
def fnExactCountInkRow : OpenClaim := { program := "ytigiooollonmjaa", sum := "e1825886e99988310f33dad87a44e6d41699b7490cacd64d756ad20dd7dc49bc", func := "loop.example/g01360/laws.FnExactCountInk", spec := "fnExactCountInk", apart := false }
def FnExactCountInkSaid : Prop := fnExactCountInkRow.holds Try.pinned (OpenSpec.ofChange fnExactCountInkSpec)

/-- ITS FALSE NEIGHBOUR: 'it returns false'. Refute it at one input. -/
def fnExactCountInkWrong : ChangeSpec := { name := "fnExactCountInk", fn := fun _ => fun
  | [d1, d2] => { results := [.lit (.bool false)], args := [d1, d2] }
  | _ => none }
def FnExactCountInkWrongFalsely : Prop := fnExactCountInkRow.holds Try.pinned (OpenSpec.ofChange fnExactCountInkWrong)

/-- 'laws.FnExactStencilOf': WHATEVER THE INPUT: true; the input reads as it did. -/
def fnExactStencilOfSpec : ChangeSpec := { name := "fnExactStencilOf", fn := fun _ => fun
  | [d1, d2] => { results := [.lit (.bool true)], args := [d1, d2] }
  | _ => none }
def fnExactStencilOfRow : OpenClaim := { program := "ytigiooollonmjaa", sum := "e1825886e99988310f33dad87a44e6d41699b7490cacd64d756ad20dd7dc49bc", func := "loop.example/g01360/laws.FnExactStencilOf", spec := "fnExactStencilOf", apart := false }
def FnExactStencilOfSaid : Prop := fnExactStencilOfRow.holds Try.pinned (OpenSpec.ofChange fnExactStencilOfSpec)

/-- ITS FALSE NEIGHBOUR: 'it returns false'. Refute it at one input. -/
def fnExactStencilOfWrong : ChangeSpec := { name := "fnExactStencilOf", fn := fun _ => fun
  | [d1, d2] => { results := [.lit (.bool false)], args := [d1, d2] }
  | _ => none }
def FnExactStencilOfWrongFalsely : Prop := fnExactStencilOfRow.holds Try.pinned (OpenSpec.ofChange fnExactStencilOfWrong)

/-- 'laws.FnExactDropsBound': WHATEVER THE INPUT: true; the input reads as it did. -/
def fnExactDropsBoundSpec : ChangeSpec := { name := "fnExactDropsBound", fn := fun _ => fun
  | [d] => { results := [.lit (.bool true)], args := [d] }
  | _ => none }
def fnExactDropsBoundRow : OpenClaim := { program := "ytigiooollonmjaa", sum := "e1825886e99988310f33dad87a44e6d41699b7490cacd64d756ad20dd7dc49bc", func := "loop.example/g01360/laws.FnExactDropsBound", spec := "fnExactDropsBound", apart := false }
def FnExactDropsBoundSaid : Prop := fnExactDropsBoundRow.holds Try.pinned (OpenSpec.ofChange fnExactDropsBoundSpec)

/-- ITS FALSE NEIGHBOUR: 'it returns false'. Refute it at one input. -/
def fnExactDropsBoundWrong : ChangeSpec := { name := "fnExactDropsBound", fn := fun _ => fun
  | [d] => { results := [.lit (.bool false)], args := [d] }
  | _ => none }
def FnExactDropsBoundWrongFalsely : Prop := fnExactDropsBoundRow.holds Try.pinned (OpenSpec.ofChange fnExactDropsBoundWrong)

/-- 'laws.FnExactInksOf': WHATEVER THE INPUT: true; the input reads as it did. -/
def fnExactInksOfSpec : ChangeSpec := { name := "fnExactInksOf", fn := fun _ => fun
  | [d] => { results := [.lit (.bool true)], args := [d] }
  | _ => none }
def fnExactInksOfRow : OpenClaim := { program := "ytigiooollonmjaa", sum := "e1825886e99988310f33dad87a44e6d41699b7490cacd64d756ad20dd7dc49bc", func := "loop.example/g01360/laws.FnExactInksOf", spec := "fnExactInksOf", apart := false }
def FnExactInksOfSaid : Prop := fnExactInksOfRow.holds Try.pinned (OpenSpec.ofChange fnExactInksOfSpec)

/-- ITS FALSE NEIGHBOUR: 'it returns false'. Refute it at one input. -/
def fnExactInksOfWrong : ChangeSpec := { name := "fnExactInksOf", fn := fun _ => fun
  | [d] => { results := [.lit (.bool false)], args := [d] }
  | _ => none }
def FnExactInksOfWrongFalsely : Prop := fnExactInksOfRow.holds Try.pinned (OpenSpec.ofChange fnExactInksOfWrong)

/-- 'laws.FnExactUnlikeIn': WHATEVER THE INPUT: true; the input reads as it did. -/
def fnExactUnlikeInSpec : ChangeSpec := { name := "fnExactUnlikeIn", fn := fun _ => fun
  | [d1, d2] => { results := [.lit (.bool true)], args := [d1, d2] }
  | _ => none }
def fnExactUnlikeInRow : OpenClaim := { program := "ytigiooollonmjaa", sum := "e1825886e99988310f33dad87a44e6d41699b7490cacd64d756ad20dd7dc49bc", func := "loop.example/g01360/laws.FnExactUnlikeIn", spec := "fnExactUnlikeIn", unfollowed := true, recurses := true, apart := false }
def FnExactUnlikeInSaid : Prop := fnExactUnlikeInRow.holds Try.pinned (OpenSpec.ofChange fnExactUnlikeInSpec)

/-- ITS FALSE NEIGHBOUR: 'it returns false'. Refute it at one input. -/
def fnExactUnlikeInWrong : ChangeSpec := { name := "fnExactUnlikeIn", fn := fun _ => fun
  | [d1, d2] => { results := [.lit (.bool false)], args := [d1, d2] }
  | _ => none }
def FnExactUnlikeInWrongFalsely : Prop := fnExactUnlikeInRow.holds Try.pinned (OpenSpec.ofChange fnExactUnlikeInWrong)

/-- 'laws.FnExactTurnPath': WHATEVER THE INPUT: true; the input reads as it did. -/
def fnExactTurnPathSpec : ChangeSpec := { name := "fnExactTurnPath", fn := fun _ => fun
  | [d] => { results := [.lit (.bool true)], args := [d] }
  | _ => none }
def fnExactTurnPathRow : OpenClaim := { program := "ytigiooollonmjaa", sum := "e1825886e99988310f33dad87a44e6d41699b7490cacd64d756ad20dd7dc49bc", func := "loop.example/g01360/laws.FnExactTurnPath", spec := "fnExactTurnPath", apart := false }
def FnExactTurnPathSaid : Prop := fnExactTurnPathRow.holds Try.pinned (OpenSpec.ofChange fnExactTurnPathSpec)

/-- ITS FALSE NEIGHBOUR: 'it returns false'. Refute it at one input. -/
def fnExactTurnPathWrong : ChangeSpec := { name := "fnExactTurnPath", fn := fun _ => fun
  | [d] => { results := [.lit (.bool false)], args := [d] }
  | _ => none }
def FnExactTurnPathWrongFalsely : Prop := fnExactTurnPathRow.holds Try.pinned (OpenSpec.ofChange fnExactTurnPathWrong)

/-- 'laws.FnExactSameStack': WHATEVER THE INPUT: true; the input reads as it did. -/
def fnExactSameStackSpec : ChangeSpec := { name := "fnExactSameStack", fn := fun _ => fun
  | [d1, d2] => { results := [.lit (.bool true)], args := [d1, d2] }
  | _ => none }
def fnExactSameStackRow : OpenClaim := { program := "ytigiooollonmjaa", sum := "e1825886e99988310f33dad87a44e6d41699b7490cacd64d756ad20dd7dc49bc", func := "loop.example/g01360/laws.FnExactSameStack", spec := "fnExactSameStack", apart := false }
def FnExactSameStackSaid : Prop := fnExactSameStackRow.holds Try.pinned (OpenSpec.ofChange fnExactSameStackSpec)

/-- ITS FALSE NEIGHBOUR: 'it returns false'. Refute it at one input. -/
def fnExactSameStackWrong : ChangeSpec := { name := "fnExactSameStack", fn := fun _ => fun
  | [d1, d2] => { results := [.lit (.bool false)], args := [d1, d2] }
  | _ => none }
def FnExactSameStackWrongFalsely : Prop := fnExactSameStackRow.holds Try.pinned (OpenSpec.ofChange fnExactSameStackWrong)

/-- 'laws.FnExactValidStack': WHATEVER THE INPUT: true; the input reads as it did. -/
def fnExactValidStackSpec : ChangeSpec := { name := "fnExactValidStack", fn := fun _ => fun
  | [d] => { results := [.lit (.bool true)], args := [d] }
  | _ => none }
def fnExactValidStackRow : OpenClaim := { program := "ytigiooollonmjaa", sum := "e1825886e99988310f33dad87a44e6d41699b7490cacd64d756ad20dd7dc49bc", func := "loop.example/g01360/laws.FnExactValidStack", spec := "fnExactValidStack", unfollowed := true, recurses := true, apart := false }
def FnExactValidStackSaid : Prop := fnExactValidStackRow.holds Try.pinned (OpenSpec.ofChange fnExactValidStackSpec)

/-- ITS FALSE NEIGHBOUR: 'it returns false'. Refute it at one input. -/
def fnExactValidStackWrong : ChangeSpec := { name := "fnExactValidStack", fn := fun _ => fun
  | [d] => { results := [.lit (.bool false)], args := [d] }
  | _ => none }
def FnExactValidStackWrongFalsely : Prop := fnExactValidStackRow.holds Try.pinned (OpenSpec.ofChange fnExactValidStackWrong)

/- THE SECOND FORM. 'bulk': how many values and letters a reading holds, each counted each time it is reached (what is shared counts as often as it is met; a slice's spare places count too). A statement '..UptoSaid' is the law's where the arguments, and the package variables that the reading takes, are together of bulk at most 1048576: NARROWER than '..Said'. Prove '..Said' where nothing that the law and all that it calls make is longer than what came in: it says more and counts as full. Else prove '..UptoSaid'. A law counts once. -/
mutual
def uptoBulk {H : Type} : DataW H → Nat
  | .lit (.string bytes) => bytes.length + 1
  | .lit _ => 1
  | .nil => 1
  | .ptr d => uptoBulk d + 1
  | .slice elems spare => uptoBulkAll elems + uptoBulkAll spare + 1
  | .agg parts => uptoBulkAll parts + 1
  | .iface _ d => uptoBulk d + 1
  | .map entries => uptoBulkEntries entries + 1
  | .held _ => 1
def uptoBulkAll {H : Type} : List (DataW H) → Nat
  | [] => 0
  | d :: r => uptoBulk d + uptoBulkAll r
def uptoBulkEntries {H : Type} : List (Lit × DataW H) → Nat
  | [] => 0
  | x :: r => uptoBulkEntry x + uptoBulkEntries r
def uptoBulkEntry {H : Type} : Lit × DataW H → Nat
  | (.string bytes, d) => bytes.length + uptoBulk d + 1
  | (_, d) => uptoBulk d + 1
 end
def uptoSmall : (H : Type) → List (DataW H) → Bool := fun _ ds => decide (uptoBulkAll ds ≤ 1048576)
def OpenSpec.upto (s : _root_.Go.ChangeSpec) : _root_.Go.OpenSpec := { _root_.Go.OpenSpec.ofChange s with cond := some uptoSmall }

/-- 'laws.FnExactMixBrushes', WHERE WHAT IT READS IS OF BULK AT MOST 1048576: true; the input reads as it did. -/
def fnExactMixBrushesUptoRow : OpenClaim := { program := "ytigiooollonmjaa", sum := "e1825886e99988310f33dad87a44e6d41699b7490cacd64d756ad20dd7dc49bc", func := "loop.example/g01360/laws.FnExactMixBrushes", spec := "fnExactMixBrushes", unfollowed := true, recurses := true, apart := false, narrowed := true }
def FnExactMixBrushesUptoSaid : Prop := fnExactMixBrushesUptoRow.holds Try.pinned (OpenSpec.upto fnExactMixBrushesSpec)

/-- 'laws.FnExactLiftCell', WHERE WHAT IT READS IS OF BULK AT MOST 1048576: true; the input reads as it did. -/
def fnExactLiftCellUptoRow : OpenClaim := { program := "ytigiooollonmjaa", sum := "e1825886e99988310f33dad87a44e6d41699b7490cacd64d756ad20dd7dc49bc", func := "loop.example/g01360/laws.FnExactLiftCell", spec := "fnExactLiftCell", apart := false, narrowed := true }
def FnExactLiftCellUptoSaid : Prop := fnExactLiftCellUptoRow.holds Try.pinned (OpenSpec.upto fnExactLiftCellSpec)

/-- 'laws.FnExactFromStencils', WHERE WHAT IT READS IS OF BULK AT MOST 1048576: true; the input reads as it did. -/
def fnExactFromStencilsUptoRow : OpenClaim := { program := "ytigiooollonmjaa", sum := "e1825886e99988310f33dad87a44e6d41699b7490cacd64d756ad20dd7dc49bc", func := "loop.example/g01360/laws.FnExactFromStencils", spec := "fnExactFromStencils", apart := false, narrowed := true }
def FnExactFromStencilsUptoSaid : Prop := fnExactFromStencilsUptoRow.holds Try.pinned (OpenSpec.upto fnExactFromStencilsSpec)

/-- 'laws.FnExactMixFor', WHERE WHAT IT READS IS OF BULK AT MOST 1048576: true; the input reads as it did. -/
def fnExactMixForUptoRow : OpenClaim := { program := "ytigiooollonmjaa", sum := "e1825886e99988310f33dad87a44e6d41699b7490cacd64d756ad20dd7dc49bc", func := "loop.example/g01360/laws.FnExactMixFor", spec := "fnExactMixFor", apart := false, narrowed := true }
def FnExactMixForUptoSaid : Prop := fnExactMixForUptoRow.holds Try.pinned (OpenSpec.upto fnExactMixForSpec)

/-- 'laws.FnExactCountInk', WHERE WHAT IT READS IS OF BULK AT MOST 1048576: true; the input reads as it did. -/
def fnExactCountInkUptoRow : OpenClaim := { program := "ytigiooollonmjaa", sum := "e1825886e99988310f33dad87a44e6d41699b7490cacd64d756ad20dd7dc49bc", func := "loop.example/g01360/laws.FnExactCountInk", spec := "fnExactCountInk", apart := false, narrowed := true }
def FnExactCountInkUptoSaid : Prop := fnExactCountInkUptoRow.holds Try.pinned (OpenSpec.upto fnExactCountInkSpec)

/-- 'laws.FnExactStencilOf', WHERE WHAT IT READS IS OF BULK AT MOST 1048576: true; the input reads as it did. -/
def fnExactStencilOfUptoRow : OpenClaim := { program := "ytigiooollonmjaa", sum := "e1825886e99988310f33dad87a44e6d41699b7490cacd64d756ad20dd7dc49bc", func := "loop.example/g01360/laws.FnExactStencilOf", spec := "fnExactStencilOf", apart := false, narrowed := true }
def FnExactStencilOfUptoSaid : Prop := fnExactStencilOfUptoRow.holds Try.pinned (OpenSpec.upto fnExactStencilOfSpec)

/-- 'laws.FnExactDropsBound', WHERE WHAT IT READS IS OF BULK AT MOST 1048576: true; the input reads as it did. -/
def fnExactDropsBoundUptoRow : OpenClaim := { program := "ytigiooollonmjaa", sum := "e1825886e99988310f33dad87a44e6d41699b7490cacd64d756ad20dd7dc49bc", func := "loop.example/g01360/laws.FnExactDropsBound", spec := "fnExactDropsBound", apart := false, narrowed := true }
def FnExactDropsBoundUptoSaid : Prop := fnExactDropsBoundUptoRow.holds Try.pinned (OpenSpec.upto fnExactDropsBoundSpec)

/-- 'laws.FnExactInksOf', WHERE WHAT IT READS IS OF BULK AT MOST 1048576: true; the input reads as it did. -/
def fnExactInksOfUptoRow : OpenClaim := { program := "ytigiooollonmjaa", sum := "e1825886e99988310f33dad87a44e6d41699b7490cacd64d756ad20dd7dc49bc", func := "loop.example/g01360/laws.FnExactInksOf", spec := "fnExactInksOf", apart := false, narrowed := true }
def FnExactInksOfUptoSaid : Prop := fnExactInksOfUptoRow.holds Try.pinned (OpenSpec.upto fnExactInksOfSpec)

/-- 'laws.FnExactUnlikeIn', WHERE WHAT IT READS IS OF BULK AT MOST 1048576: true; the input reads as it did. -/
def fnExactUnlikeInUptoRow : OpenClaim := { program := "ytigiooollonmjaa", sum := "e1825886e99988310f33dad87a44e6d41699b7490cacd64d756ad20dd7dc49bc", func := "loop.example/g01360/laws.FnExactUnlikeIn", spec := "fnExactUnlikeIn", unfollowed := true, recurses := true, apart := false, narrowed := true }
def FnExactUnlikeInUptoSaid : Prop := fnExactUnlikeInUptoRow.holds Try.pinned (OpenSpec.upto fnExactUnlikeInSpec)

/-- 'laws.FnExactTurnPath', WHERE WHAT IT READS IS OF BULK AT MOST 1048576: true; the input reads as it did. -/
def fnExactTurnPathUptoRow : OpenClaim := { program := "ytigiooollonmjaa", sum := "e1825886e99988310f33dad87a44e6d41699b7490cacd64d756ad20dd7dc49bc", func := "loop.example/g01360/laws.FnExactTurnPath", spec := "fnExactTurnPath", apart := false, narrowed := true }
def FnExactTurnPathUptoSaid : Prop := fnExactTurnPathUptoRow.holds Try.pinned (OpenSpec.upto fnExactTurnPathSpec)

/-- 'laws.FnExactSameStack', WHERE WHAT IT READS IS OF BULK AT MOST 1048576: true; the input reads as it did. -/
def fnExactSameStackUptoRow : OpenClaim := { program := "ytigiooollonmjaa", sum := "e1825886e99988310f33dad87a44e6d41699b7490cacd64d756ad20dd7dc49bc", func := "loop.example/g01360/laws.FnExactSameStack", spec := "fnExactSameStack", apart := false, narrowed := true }
def FnExactSameStackUptoSaid : Prop := fnExactSameStackUptoRow.holds Try.pinned (OpenSpec.upto fnExactSameStackSpec)

/-- 'laws.FnExactValidStack', WHERE WHAT IT READS IS OF BULK AT MOST 1048576: true; the input reads as it did. -/
def fnExactValidStackUptoRow : OpenClaim := { program := "ytigiooollonmjaa", sum := "e1825886e99988310f33dad87a44e6d41699b7490cacd64d756ad20dd7dc49bc", func := "loop.example/g01360/laws.FnExactValidStack", spec := "fnExactValidStack", unfollowed := true, recurses := true, apart := false, narrowed := true }
def FnExactValidStackUptoSaid : Prop := fnExactValidStackUptoRow.holds Try.pinned (OpenSpec.upto fnExactValidStackSpec)

end Rows
end Go.Proofs.Ytigiooollonmjaa
