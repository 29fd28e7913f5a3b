/-
  No cell of these rows narrows 'for every input' (looked for: loops, veiled, ifaces, maps, wideKeys, modest, calm, conditions, laid).
  DERIVED. THE GIVEN ROWS OF THIS SEAT. 11 by the template 'for every input the law returns true; each argument reads behind the call as it read before'; 0 by the template 'total and deterministic' (their statements: YthieanbobniegaaTotals.lean).
  GIVEN WITH THE SEED: the statements are not yours to turn. If you find one false, say at which input.
  Laid BY PROGRAM, IN A SANDBOX (cutbox-rows.mjs): the forced cells as the released guide's own fill.sh prints them over the translation 5d1e65540031aaf4… (all of the seat's roots in one cut). By AI agents, Wed Nov 11 2026. No macro, syntax, notation, axiom, sorry.
-/
import Derived.Test.YthieanbobniegaaChecked
import GoSem.Claim
import GoSem.ClaimJoined
import GoSem.ClaimMapViews
import Derived.JoinedTies
import Derived.KernelRfl
namespace Go.Proofs.Ythieanbobniegaa
/- THE CELL 'sum', in the pinned program and in every row, IS THE sha256 OF THE DUMP (.gsa) THAT YthieanbobniegaaProg.lean LOADS. Nothing in Lean hashes anything: it is a label: what it is worth is what the hold of that sum in a sandbox is worth. -/
noncomputable def Try.pinned : Pinned := { name := "ythieanbobniegaa", sum := "5d1e65540031aaf4e5795b4edd4e2006a1df01500e986762ee0f50e5174c8dd0", checked := Try.checked }
namespace Rows
def none {H : Type} : Left H := { results := [], args := [] }

/-- 'laws.FnExactConstants': WHATEVER THE INPUT: true; the input reads as it did. -/
def fnExactConstantsSpec : ChangeSpec := { name := "fnExactConstants", fn := fun _ => fun
  | [] => { results := [.lit (.bool true)], args := [] }
  | _ => none }
def fnExactConstantsRow : OpenClaim := { program := "ythieanbobniegaa", sum := "5d1e65540031aaf4e5795b4edd4e2006a1df01500e986762ee0f50e5174c8dd0", func := "loop.example/g01360/laws.FnExactConstants", spec := "fnExactConstants", apart := false }
def FnExactConstantsSaid : Prop := fnExactConstantsRow.holds Try.pinned (OpenSpec.ofChange fnExactConstantsSpec)

/-- ITS FALSE NEIGHBOUR: 'it returns false'. Refute it at one input. -/
def fnExactConstantsWrong : ChangeSpec := { name := "fnExactConstants", fn := fun _ => fun
  | [] => { results := [.lit (.bool false)], args := [] }
  | _ => none }
def FnExactConstantsWrongFalsely : Prop := fnExactConstantsRow.holds Try.pinned (OpenSpec.ofChange fnExactConstantsWrong)

/-- 'laws.FnExactLoadOf': WHATEVER THE INPUT: true; the input reads as it did. -/
def fnExactLoadOfSpec : ChangeSpec := { name := "fnExactLoadOf", fn := fun _ => fun
  | [d] => { results := [.lit (.bool true)], args := [d] }
  | _ => none }
def fnExactLoadOfRow : OpenClaim := { program := "ythieanbobniegaa", sum := "5d1e65540031aaf4e5795b4edd4e2006a1df01500e986762ee0f50e5174c8dd0", func := "loop.example/g01360/laws.FnExactLoadOf", spec := "fnExactLoadOf", apart := false }
def FnExactLoadOfSaid : Prop := fnExactLoadOfRow.holds Try.pinned (OpenSpec.ofChange fnExactLoadOfSpec)

/-- ITS FALSE NEIGHBOUR: 'it returns false'. Refute it at one input. -/
def fnExactLoadOfWrong : ChangeSpec := { name := "fnExactLoadOf", fn := fun _ => fun
  | [d] => { results := [.lit (.bool false)], args := [d] }
  | _ => none }
def FnExactLoadOfWrongFalsely : Prop := fnExactLoadOfRow.holds Try.pinned (OpenSpec.ofChange fnExactLoadOfWrong)

/-- 'laws.FnExactCodeName': WHATEVER THE INPUT: true; the input reads as it did. -/
def fnExactCodeNameSpec : ChangeSpec := { name := "fnExactCodeName", fn := fun _ => fun
  | [d] => { results := [.lit (.bool true)], args := [d] }
  | _ => none }
def fnExactCodeNameRow : OpenClaim := { program := "ythieanbobniegaa", sum := "5d1e65540031aaf4e5795b4edd4e2006a1df01500e986762ee0f50e5174c8dd0", func := "loop.example/g01360/laws.FnExactCodeName", spec := "fnExactCodeName", apart := false }
def FnExactCodeNameSaid : Prop := fnExactCodeNameRow.holds Try.pinned (OpenSpec.ofChange fnExactCodeNameSpec)

/-- ITS FALSE NEIGHBOUR: 'it returns false'. Refute it at one input. -/
def fnExactCodeNameWrong : ChangeSpec := { name := "fnExactCodeName", fn := fun _ => fun
  | [d] => { results := [.lit (.bool false)], args := [d] }
  | _ => none }
def FnExactCodeNameWrongFalsely : Prop := fnExactCodeNameRow.holds Try.pinned (OpenSpec.ofChange fnExactCodeNameWrong)

/-- 'laws.FnExactSamePicture': WHATEVER THE INPUT: true; the input reads as it did. -/
def fnExactSamePictureSpec : ChangeSpec := { name := "fnExactSamePicture", fn := fun _ => fun
  | [d1, d2] => { results := [.lit (.bool true)], args := [d1, d2] }
  | _ => none }
def fnExactSamePictureRow : OpenClaim := { program := "ythieanbobniegaa", sum := "5d1e65540031aaf4e5795b4edd4e2006a1df01500e986762ee0f50e5174c8dd0", func := "loop.example/g01360/laws.FnExactSamePicture", spec := "fnExactSamePicture", apart := false }
def FnExactSamePictureSaid : Prop := fnExactSamePictureRow.holds Try.pinned (OpenSpec.ofChange fnExactSamePictureSpec)

/-- ITS FALSE NEIGHBOUR: 'it returns false'. Refute it at one input. -/
def fnExactSamePictureWrong : ChangeSpec := { name := "fnExactSamePicture", fn := fun _ => fun
  | [d1, d2] => { results := [.lit (.bool false)], args := [d1, d2] }
  | _ => none }
def FnExactSamePictureWrongFalsely : Prop := fnExactSamePictureRow.holds Try.pinned (OpenSpec.ofChange fnExactSamePictureWrong)

/-- 'laws.FnExactValidBrush': WHATEVER THE INPUT: true; the input reads as it did. -/
def fnExactValidBrushSpec : ChangeSpec := { name := "fnExactValidBrush", fn := fun _ => fun
  | [d] => { results := [.lit (.bool true)], args := [d] }
  | _ => none }
def fnExactValidBrushRow : OpenClaim := { program := "ythieanbobniegaa", sum := "5d1e65540031aaf4e5795b4edd4e2006a1df01500e986762ee0f50e5174c8dd0", func := "loop.example/g01360/laws.FnExactValidBrush", spec := "fnExactValidBrush", apart := false }
def FnExactValidBrushSaid : Prop := fnExactValidBrushRow.holds Try.pinned (OpenSpec.ofChange fnExactValidBrushSpec)

/-- ITS FALSE NEIGHBOUR: 'it returns false'. Refute it at one input. -/
def fnExactValidBrushWrong : ChangeSpec := { name := "fnExactValidBrush", fn := fun _ => fun
  | [d] => { results := [.lit (.bool false)], args := [d] }
  | _ => none }
def FnExactValidBrushWrongFalsely : Prop := fnExactValidBrushRow.holds Try.pinned (OpenSpec.ofChange fnExactValidBrushWrong)

/-- 'laws.FnExactBlankPicture': WHATEVER THE INPUT: true; the input reads as it did. -/
def fnExactBlankPictureSpec : ChangeSpec := { name := "fnExactBlankPicture", fn := fun _ => fun
  | [d1, d2] => { results := [.lit (.bool true)], args := [d1, d2] }
  | _ => none }
def fnExactBlankPictureRow : OpenClaim := { program := "ythieanbobniegaa", sum := "5d1e65540031aaf4e5795b4edd4e2006a1df01500e986762ee0f50e5174c8dd0", func := "loop.example/g01360/laws.FnExactBlankPicture", spec := "fnExactBlankPicture", apart := false }
def FnExactBlankPictureSaid : Prop := fnExactBlankPictureRow.holds Try.pinned (OpenSpec.ofChange fnExactBlankPictureSpec)

/-- ITS FALSE NEIGHBOUR: 'it returns false'. Refute it at one input. -/
def fnExactBlankPictureWrong : ChangeSpec := { name := "fnExactBlankPicture", fn := fun _ => fun
  | [d1, d2] => { results := [.lit (.bool false)], args := [d1, d2] }
  | _ => none }
def FnExactBlankPictureWrongFalsely : Prop := fnExactBlankPictureRow.holds Try.pinned (OpenSpec.ofChange fnExactBlankPictureWrong)

/-- 'laws.FnExactSameSheet': WHATEVER THE INPUT: true; the input reads as it did. -/
def fnExactSameSheetSpec : ChangeSpec := { name := "fnExactSameSheet", fn := fun _ => fun
  | [d1, d2] => { results := [.lit (.bool true)], args := [d1, d2] }
  | _ => none }
def fnExactSameSheetRow : OpenClaim := { program := "ythieanbobniegaa", sum := "5d1e65540031aaf4e5795b4edd4e2006a1df01500e986762ee0f50e5174c8dd0", func := "loop.example/g01360/laws.FnExactSameSheet", spec := "fnExactSameSheet", apart := false }
def FnExactSameSheetSaid : Prop := fnExactSameSheetRow.holds Try.pinned (OpenSpec.ofChange fnExactSameSheetSpec)

/-- ITS FALSE NEIGHBOUR: 'it returns false'. Refute it at one input. -/
def fnExactSameSheetWrong : ChangeSpec := { name := "fnExactSameSheet", fn := fun _ => fun
  | [d1, d2] => { results := [.lit (.bool false)], args := [d1, d2] }
  | _ => none }
def FnExactSameSheetWrongFalsely : Prop := fnExactSameSheetRow.holds Try.pinned (OpenSpec.ofChange fnExactSameSheetWrong)

/-- 'laws.FnExactValidPicture': WHATEVER THE INPUT: true; the input reads as it did. -/
def fnExactValidPictureSpec : ChangeSpec := { name := "fnExactValidPicture", fn := fun _ => fun
  | [d] => { results := [.lit (.bool true)], args := [d] }
  | _ => none }
def fnExactValidPictureRow : OpenClaim := { program := "ythieanbobniegaa", sum := "5d1e65540031aaf4e5795b4edd4e2006a1df01500e986762ee0f50e5174c8dd0", func := "loop.example/g01360/laws.FnExactValidPicture", spec := "fnExactValidPicture", apart := false }
def FnExactValidPictureSaid : Prop := fnExactValidPictureRow.holds Try.pinned (OpenSpec.ofChange fnExactValidPictureSpec)

/-- ITS FALSE NEIGHBOUR: 'it returns false'. Refute it at one input. -/
def fnExactValidPictureWrong : ChangeSpec := { name := "fnExactValidPicture", fn := fun _ => fun
  | [d] => { results := [.lit (.bool false)], args := [d] }
  | _ => none }
def FnExactValidPictureWrongFalsely : Prop := fnExactValidPictureRow.holds Try.pinned (OpenSpec.ofChange fnExactValidPictureWrong)

/-- 'laws.FnExactPlainSheet': WHATEVER THE INPUT: true; the input reads as it did. -/
def fnExactPlainSheetSpec : ChangeSpec := { name := "fnExactPlainSheet", fn := fun _ => fun
  | [d1, d2] => { results := [.lit (.bool true)], args := [d1, d2] }
  | _ => none }
def fnExactPlainSheetRow : OpenClaim := { program := "ythieanbobniegaa", sum := "5d1e65540031aaf4e5795b4edd4e2006a1df01500e986762ee0f50e5174c8dd0", func := "loop.example/g01360/laws.FnExactPlainSheet", spec := "fnExactPlainSheet", apart := false }
def FnExactPlainSheetSaid : Prop := fnExactPlainSheetRow.holds Try.pinned (OpenSpec.ofChange fnExactPlainSheetSpec)

/-- ITS FALSE NEIGHBOUR: 'it returns false'. Refute it at one input. -/
def fnExactPlainSheetWrong : ChangeSpec := { name := "fnExactPlainSheet", fn := fun _ => fun
  | [d1, d2] => { results := [.lit (.bool false)], args := [d1, d2] }
  | _ => none }
def FnExactPlainSheetWrongFalsely : Prop := fnExactPlainSheetRow.holds Try.pinned (OpenSpec.ofChange fnExactPlainSheetWrong)

/-- 'laws.FnExactRinseBrush': WHATEVER THE INPUT: true; the input reads as it did. -/
def fnExactRinseBrushSpec : ChangeSpec := { name := "fnExactRinseBrush", fn := fun _ => fun
  | [d] => { results := [.lit (.bool true)], args := [d] }
  | _ => none }
def fnExactRinseBrushRow : OpenClaim := { program := "ythieanbobniegaa", sum := "5d1e65540031aaf4e5795b4edd4e2006a1df01500e986762ee0f50e5174c8dd0", func := "loop.example/g01360/laws.FnExactRinseBrush", spec := "fnExactRinseBrush", apart := false }
def FnExactRinseBrushSaid : Prop := fnExactRinseBrushRow.holds Try.pinned (OpenSpec.ofChange fnExactRinseBrushSpec)

/-- ITS FALSE NEIGHBOUR: 'it returns false'. Refute it at one input. -/
def fnExactRinseBrushWrong : ChangeSpec := { name := "fnExactRinseBrush", fn := fun _ => fun
  | [d] => { results := [.lit (.bool false)], args := [d] }
  | _ => none }
def FnExactRinseBrushWrongFalsely : Prop := fnExactRinseBrushRow.holds Try.pinned (OpenSpec.ofChange fnExactRinseBrushWrong)

/-- 'laws.FnExactMixFor': WHATEVER THE INPUT: true; the input reads as it did. -/
def fnExactMixForSpec : ChangeSpec := { name := "fnExactMixFor", fn := fun _ => fun
  | [d1, d2] => { results := [.lit (.bool true)], args := [d1, d2] }
  | _ => none }
def fnExactMixForRow : OpenClaim := { program := "ythieanbobniegaa", sum := "5d1e65540031aaf4e5795b4edd4e2006a1df01500e986762ee0f50e5174c8dd0", func := "loop.example/g01360/laws.FnExactMixFor", spec := "fnExactMixFor", apart := false }
def FnExactMixForSaid : Prop := fnExactMixForRow.holds Try.pinned (OpenSpec.ofChange fnExactMixForSpec)

/-- ITS FALSE NEIGHBOUR: 'it returns false'. Refute it at one input. -/
def fnExactMixForWrong : ChangeSpec := { name := "fnExactMixFor", fn := fun _ => fun
  | [d1, d2] => { results := [.lit (.bool false)], args := [d1, d2] }
  | _ => none }
def FnExactMixForWrongFalsely : Prop := fnExactMixForRow.holds Try.pinned (OpenSpec.ofChange fnExactMixForWrong)

/- THE SECOND FORM. 'bulk': how many values and letters a reading holds, each counted each time it is reached (what is shared counts as often as it is met; a slice's spare places count too). A statement '..UptoSaid' is the law's where the arguments, and the package variables that the reading takes, are together of bulk at most 1048576: NARROWER than '..Said'. Prove '..Said' where nothing that the law and all that it calls make is longer than what came in: it says more and counts as full. Else prove '..UptoSaid'. A law counts once. -/
mutual
def uptoBulk {H : Type} : DataW H → Nat
  | .lit (.string bytes) => bytes.length + 1
  | .lit _ => 1
  | .nil => 1
  | .ptr d => uptoBulk d + 1
  | .slice elems spare => uptoBulkAll elems + uptoBulkAll spare + 1
  | .agg parts => uptoBulkAll parts + 1
  | .iface _ d => uptoBulk d + 1
  | .map entries => uptoBulkEntries entries + 1
  | .held _ => 1
def uptoBulkAll {H : Type} : List (DataW H) → Nat
  | [] => 0
  | d :: r => uptoBulk d + uptoBulkAll r
def uptoBulkEntries {H : Type} : List (Lit × DataW H) → Nat
  | [] => 0
  | x :: r => uptoBulkEntry x + uptoBulkEntries r
def uptoBulkEntry {H : Type} : Lit × DataW H → Nat
  | (.string bytes, d) => bytes.length + uptoBulk d + 1
  | (_, d) => uptoBulk d + 1
 end
def uptoSmall : (H : Type) → List (DataW H) → Bool := fun _ ds => decide (uptoBulkAll ds ≤ 1048576)
def OpenSpec.upto (s : _root_.Go.ChangeSpec) : _root_.Go.OpenSpec := { _root_.Go.OpenSpec.ofChange s with cond := some uptoSmall }

/-- 'laws.FnExactConstants', WHERE WHAT IT READS IS OF BULK AT MOST 1048576: true; the input reads as it did. -/
def fnExactConstantsUptoRow : OpenClaim := { program := "ythieanbobniegaa", sum := "5d1e65540031aaf4e5795b4edd4e2006a1df01500e986762ee0f50e5174c8dd0", func := "loop.example/g01360/laws.FnExactConstants", spec := "fnExactConstants", apart := false, narrowed := true }
def FnExactConstantsUptoSaid : Prop := fnExactConstantsUptoRow.holds Try.pinned (OpenSpec.upto fnExactConstantsSpec)

/-- 'laws.FnExactLoadOf', WHERE WHAT IT READS IS OF BULK AT MOST 1048576: true; the input reads as it did. -/
def fnExactLoadOfUptoRow : OpenClaim := { program := "ythieanbobniegaa", sum := "5d1e65540031aaf4e5795b4edd4e2006a1df01500e986762ee0f50e5174c8dd0", func := "loop.example/g01360/laws.FnExactLoadOf", spec := "fnExactLoadOf", apart := false, narrowed := true }
def FnExactLoadOfUptoSaid : Prop := fnExactLoadOfUptoRow.holds Try.pinned (OpenSpec.upto fnExactLoadOfSpec)

/-- 'laws.FnExactCodeName', WHERE WHAT IT READS IS OF BULK AT MOST 1048576: true; the input reads as it did. -/
def fnExactCodeNameUptoRow : OpenClaim := { program := "ythieanbobniegaa", sum := "5d1e65540031aaf4e5795b4edd4e2006a1df01500e986762ee0f50e5174c8dd0", func := "loop.example/g01360/laws.FnExactCodeName", spec := "fnExactCodeName", apart := false, narrowed := true }
def FnExactCodeNameUptoSaid : Prop := fnExactCodeNameUptoRow.holds Try.pinned (OpenSpec.upto fnExactCodeNameSpec)

/-- 'laws.FnExactSamePicture', WHERE WHAT IT READS IS OF BULK AT MOST 1048576: true; the input reads as it did. -/
def fnExactSamePictureUptoRow : OpenClaim := { program := "ythieanbobniegaa", sum := "5d1e65540031aaf4e5795b4edd4e2006a1df01500e986762ee0f50e5174c8dd0", func := "loop.example/g01360/laws.FnExactSamePicture", spec := "fnExactSamePicture", apart := false, narrowed := true }
def FnExactSamePictureUptoSaid : Prop := fnExactSamePictureUptoRow.holds Try.pinned (OpenSpec.upto fnExactSamePictureSpec)

/-- 'laws.FnExactValidBrush', WHERE WHAT IT READS IS OF BULK AT MOST 1048576: true; the input reads as it did. -/
def fnExactValidBrushUptoRow : OpenClaim := { program := "ythieanbobniegaa", sum := "5d1e65540031aaf4e5795b4edd4e2006a1df01500e986762ee0f50e5174c8dd0", func := "loop.example/g01360/laws.FnExactValidBrush", spec := "fnExactValidBrush", apart := false, narrowed := true }
def FnExactValidBrushUptoSaid : Prop := fnExactValidBrushUptoRow.holds Try.pinned (OpenSpec.upto fnExactValidBrushSpec)

/-- 'laws.FnExactBlankPicture', WHERE WHAT IT READS IS OF BULK AT MOST 1048576: true; the input reads as it did. -/
def fnExactBlankPictureUptoRow : OpenClaim := { program := "ythieanbobniegaa", sum := "5d1e65540031aaf4e5795b4edd4e2006a1df01500e986762ee0f50e5174c8dd0", func := "loop.example/g01360/laws.FnExactBlankPicture", spec := "fnExactBlankPicture", apart := false, narrowed := true }
def FnExactBlankPictureUptoSaid : Prop := fnExactBlankPictureUptoRow.holds Try.pinned (OpenSpec.upto fnExactBlankPictureSpec)

/-- 'laws.FnExactSameSheet', WHERE WHAT IT READS IS OF BULK AT MOST 1048576: true; the input reads as it did. -/
def fnExactSameSheetUptoRow : OpenClaim := { program := "ythieanbobniegaa", sum := "5d1e65540031aaf4e5795b4edd4e2006a1df01500e986762ee0f50e5174c8dd0", func := "loop.example/g01360/laws.FnExactSameSheet", spec := "fnExactSameSheet", apart := false, narrowed := true }
def FnExactSameSheetUptoSaid : Prop := fnExactSameSheetUptoRow.holds Try.pinned (OpenSpec.upto fnExactSameSheetSpec)

/-- 'laws.FnExactValidPicture', WHERE WHAT IT READS IS OF BULK AT MOST 1048576: true; the input reads as it did. -/
def fnExactValidPictureUptoRow : OpenClaim := { program := "ythieanbobniegaa", sum := "5d1e65540031aaf4e5795b4edd4e2006a1df01500e986762ee0f50e5174c8dd0", func := "loop.example/g01360/laws.FnExactValidPicture", spec := "fnExactValidPicture", apart := false, narrowed := true }
def FnExactValidPictureUptoSaid : Prop := fnExactValidPictureUptoRow.holds Try.pinned (OpenSpec.upto fnExactValidPictureSpec)

/-- 'laws.FnExactPlainSheet', WHERE WHAT IT READS IS OF BULK AT MOST 1048576: true; the input reads as it did. -/
def fnExactPlainSheetUptoRow : OpenClaim := { program := "ythieanbobniegaa", sum := "5d1e65540031aaf4e5795b4edd4e2006a1df01500e986762ee0f50e5174c8dd0", func := "loop.example/g01360/laws.FnExactPlainSheet", spec := "fnExactPlainSheet", apart := false, narrowed := true }
def FnExactPlainSheetUptoSaid : Prop := fnExactPlainSheetUptoRow.holds Try.pinned (OpenSpec.upto fnExactPlainSheetSpec)

/-- 'laws.FnExactRinseBrush', WHERE WHAT IT READS IS OF BULK AT MOST 1048576: true; the input reads as it did. -/
def fnExactRinseBrushUptoRow : OpenClaim := { program := "ythieanbobniegaa", sum := "5d1e65540031aaf4e5795b4edd4e2006a1df01500e986762ee0f50e5174c8dd0", func := "loop.example/g01360/laws.FnExactRinseBrush", spec := "fnExactRinseBrush", apart := false, narrowed := true }
def FnExactRinseBrushUptoSaid : Prop := fnExactRinseBrushUptoRow.holds Try.pinned (OpenSpec.upto fnExactRinseBrushSpec)

/-- 'laws.FnExactMixFor', WHERE WHAT IT READS IS OF BULK AT MOST 1048576: true; the input reads as it did. -/
def fnExactMixForUptoRow : OpenClaim := { program := "ythieanbobniegaa", sum := "5d1e65540031aaf4e5795b4edd4e2006a1df01500e986762ee0f50e5174c8dd0", func := "loop.example/g01360/laws.FnExactMixFor", spec := "fnExactMixFor", apart := false, narrowed := true }
def FnExactMixForUptoSaid : Prop := fnExactMixForUptoRow.holds Try.pinned (OpenSpec.upto fnExactMixForSpec)

end Rows
end Go.Proofs.Ythieanbobniegaa
