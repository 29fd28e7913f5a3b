/-
  No cell of these rows narrows 'for every input' (looked for: loops, veiled, ifaces, maps, wideKeys, modest, calm, conditions, laid).
  DERIVED. THE GIVEN ROWS OF THIS SEAT. 2 by the template 'for every input the law returns true; each argument reads behind the call as it read before'; 0 by the template 'total and deterministic' (their statements: YtkdfkhjoijfcdaaTotals.lean).
  GIVEN WITH THE SEED: the statements are not yours to turn. If you find one false, say at which input.
  Laid BY PROGRAM, IN A SANDBOX (cutbox-rows.mjs): the forced cells as the released guide's own fill.sh prints them over the translation 8f3b53f29e8a3e7e… (all of the seat's roots in one cut). By AI agents, Wed Nov 11 2026. No macro, syntax, notation, axiom, sorry.
-/
import Derived.Test.YtkdfkhjoijfcdaaChecked
import GoSem.Claim
import GoSem.ClaimJoined
import GoSem.ClaimMapViews
import Derived.JoinedTies
import Derived.KernelRfl
namespace Go.Proofs.Ytkdfkhjoijfcdaa
/- THE CELL 'sum', in the pinned program and in every row, IS THE sha256 OF THE DUMP (.gsa) THAT YtkdfkhjoijfcdaaProg.lean LOADS. Nothing in Lean hashes anything: it is a label: what it is worth is what the hold of that sum in a sandbox is worth. -/
noncomputable def Try.pinned : Pinned := { name := "ytkdfkhjoijfcdaa", sum := "8f3b53f29e8a3e7e8f635433f75138db9de4afa5d141fcd01b1049132acbed52", checked := Try.checked }
namespace Rows
def none {H : Type} : Left H := { results := [], args := [] }

/-- 'laws.FnExactPutSheet': WHATEVER THE INPUT: true; the input reads as it did. -/
def fnExactPutSheetSpec : ChangeSpec := { name := "fnExactPutSheet", fn := fun _ => fun
  | [d1, d2, d3] => { results := [.lit (.bool true)], args := [d1, d2, d3] }
  | _ => none }
def fnExactPutSheetRow : OpenClaim := { program := "ytkdfkhjoijfcdaa", sum := "8f3b53f29e8a3e7e8f635433f75138db9de4afa5d141fcd01b1049132acbed52", func := "loop.example/g01360/laws.FnExactPutSheet", spec := "fnExactPutSheet", inPlace := ["slices.overlaps[loop.example/g01360/impl.Sheet]"], unfollowed := true, recurses := true, apart := false }
def FnExactPutSheetSaid : Prop := fnExactPutSheetRow.holds Try.pinned (OpenSpec.ofChange fnExactPutSheetSpec)

/-- ITS FALSE NEIGHBOUR: 'it returns false'. Refute it at one input. -/
def fnExactPutSheetWrong : ChangeSpec := { name := "fnExactPutSheet", fn := fun _ => fun
  | [d1, d2, d3] => { results := [.lit (.bool false)], args := [d1, d2, d3] }
  | _ => none }
def FnExactPutSheetWrongFalsely : Prop := fnExactPutSheetRow.holds Try.pinned (OpenSpec.ofChange fnExactPutSheetWrong)

/-- 'laws.FnExactValidMarks': WHATEVER THE INPUT: true; the input reads as it did. -/
def fnExactValidMarksSpec : ChangeSpec := { name := "fnExactValidMarks", fn := fun _ => fun
  | [d1, d2] => { results := [.lit (.bool true)], args := [d1, d2] }
  | _ => none }
def fnExactValidMarksRow : OpenClaim := { program := "ytkdfkhjoijfcdaa", sum := "8f3b53f29e8a3e7e8f635433f75138db9de4afa5d141fcd01b1049132acbed52", func := "loop.example/g01360/laws.FnExactValidMarks", spec := "fnExactValidMarks", unfollowed := true, recurses := true, apart := false }
def FnExactValidMarksSaid : Prop := fnExactValidMarksRow.holds Try.pinned (OpenSpec.ofChange fnExactValidMarksSpec)

/-- ITS FALSE NEIGHBOUR: 'it returns false'. Refute it at one input. -/
def fnExactValidMarksWrong : ChangeSpec := { name := "fnExactValidMarks", fn := fun _ => fun
  | [d1, d2] => { results := [.lit (.bool false)], args := [d1, d2] }
  | _ => none }
def FnExactValidMarksWrongFalsely : Prop := fnExactValidMarksRow.holds Try.pinned (OpenSpec.ofChange fnExactValidMarksWrong)

/- THE SECOND FORM. 'bulk': how many values and letters a reading holds, each counted each time it is reached (what is shared counts as often as it is met; a slice's spare places count too). A statement '..UptoSaid' is the law's where the arguments, and the package variables that the reading takes, are together of bulk at most 1048576: NARROWER than '..Said'. Prove '..Said' where nothing that the law and all that it calls make is longer than what came in: it says more and counts as full. Else prove '..UptoSaid'. A law counts once. -/
mutual
def uptoBulk {H : Type} : DataW H → Nat
  | .lit (.string bytes) => bytes.length + 1
  | .lit _ => 1
  | .nil => 1
  | .ptr d => uptoBulk d + 1
  | .slice elems spare => uptoBulkAll elems + uptoBulkAll spare + 1
  | .agg parts => uptoBulkAll parts + 1
  | .iface _ d => uptoBulk d + 1
  | .map entries => uptoBulkEntries entries + 1
  | .held _ => 1
def uptoBulkAll {H : Type} : List (DataW H) → Nat
  | [] => 0
  | d :: r => uptoBulk d + uptoBulkAll r
def uptoBulkEntries {H : Type} : List (Lit × DataW H) → Nat
  | [] => 0
  | x :: r => uptoBulkEntry x + uptoBulkEntries r
def uptoBulkEntry {H : Type} : Lit × DataW H → Nat
  | (.string bytes, d) => bytes.length + uptoBulk d + 1
  | (_, d) => uptoBulk d + 1
 end
def uptoSmall : (H : Type) → List (DataW H) → Bool := fun _ ds => decide (uptoBulkAll ds ≤ 1048576)
def OpenSpec.upto (s : _root_.Go.ChangeSpec) : _root_.Go.OpenSpec := { _root_.Go.OpenSpec.ofChange s with cond := some uptoSmall }

/-- 'laws.FnExactPutSheet', WHERE WHAT IT READS IS OF BULK AT MOST 1048576: true; the input reads as it did. -/
def fnExactPutSheetUptoRow : OpenClaim := { program := "ytkdfkhjoijfcdaa", sum := "8f3b53f29e8a3e7e8f635433f75138db9de4afa5d141fcd01b1049132acbed52", func := "loop.example/g01360/laws.FnExactPutSheet", spec := "fnExactPutSheet", inPlace := ["slices.overlaps[loop.example/g01360/impl.Sheet]"], unfollowed := true, recurses := true, apart := false, narrowed := true }
def FnExactPutSheetUptoSaid : Prop := fnExactPutSheetUptoRow.holds Try.pinned (OpenSpec.upto fnExactPutSheetSpec)

/-- 'laws.FnExactValidMarks', WHERE WHAT IT READS IS OF BULK AT MOST 1048576: true; the input reads as it did. -/
def fnExactValidMarksUptoRow : OpenClaim := { program := "ytkdfkhjoijfcdaa", sum := "8f3b53f29e8a3e7e8f635433f75138db9de4afa5d141fcd01b1049132acbed52", func := "loop.example/g01360/laws.FnExactValidMarks", spec := "fnExactValidMarks", unfollowed := true, recurses := true, apart := false, narrowed := true }
def FnExactValidMarksUptoSaid : Prop := fnExactValidMarksUptoRow.holds Try.pinned (OpenSpec.upto fnExactValidMarksSpec)

end Rows
end Go.Proofs.Ytkdfkhjoijfcdaa
