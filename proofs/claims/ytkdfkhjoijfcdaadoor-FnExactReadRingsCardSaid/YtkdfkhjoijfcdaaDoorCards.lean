/-
  DERIVED. GIVEN WITH THE SEED: THE CARDS: each row of YtkdfkhjoijfcdaaDoorRows.lean that lists a variable, with what it lists TIED to the program's text (the seventh form; the later family's looks); each row that meets fmt, with fmt's text TOLD by the authors' own Lean function (tested against real Go, not proved from fmt's source: count such statements apart). THE CARD IS WHAT COUNTS. Prove the row's statement (the work); the ties are given (YtkdfkhjoijfcdaaDoorTie.lean); close each card by the builder's one call (the guide's Derived/Test/ToyasCard.lean, 'card_holds'). Laid BY PROGRAM, IN A SANDBOX (cutbox-door.mjs). By AI agents, Wed Nov 11 2026. No macro, syntax, notation, axiom, sorry.
-/
import Derived.Test.YtkdfkhjoijfcdaaDoorRows
import GoSem.ClaimSeven
namespace Go.Proofs.YtkdfkhjoijfcdaaDoor
namespace Rows

/-- THE TIED CARD OF 'laws.FnExactReadRings'. -/
def fnExactReadRingsCard : Claim7 := { stood := { row := fnExactReadRingsRow, standIns := [], harness := (true, "b516855524926e7973a3f0e898e45cc7e5d124a5d66c97b65bd2e7af02f9498b"), looks := true }, kinds := [], alts := [], laidByText := true, laidKinds := [.data, .data, .data, .data, .sentinel, .sentinel, .pinned], laidTests := true, laidLooks := .later }
def FnExactReadRingsCardSaid : Prop := Claim7.holds Tryd.pinned (.plain (OpenSpec.ofChange fnExactReadRingsSpec)) fnExactReadRingsCard

/-- THE SECOND FORM's CARD OF 'laws.FnExactReadRings'. -/
def fnExactReadRingsUptoCard : Claim7 := { stood := { row := fnExactReadRingsUptoRow, standIns := [], harness := (true, "b516855524926e7973a3f0e898e45cc7e5d124a5d66c97b65bd2e7af02f9498b"), looks := true }, kinds := [], alts := [], laidByText := true, laidKinds := [.data, .data, .data, .data, .sentinel, .sentinel, .pinned], laidTests := true, laidLooks := .later }
def FnExactReadRingsUptoCardSaid : Prop := Claim7.holds Tryd.pinned (.plain (OpenSpec.upto fnExactReadRingsSpec)) fnExactReadRingsUptoCard
end Rows
end Go.Proofs.YtkdfkhjoijfcdaaDoor
