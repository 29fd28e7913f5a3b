/-
  DERIVED. GIVEN WITH THE SEED: THE CARDS: each row of YtejnejplofddnaaGreatDoorRows.lean that lists a variable, with what it lists TIED to the program's text (the seventh form; the later family's looks); each row that meets fmt, with fmt's text TOLD by the authors' own Lean function (tested against real Go, not proved from fmt's source: count such statements apart). THE CARD IS WHAT COUNTS. Prove the row's statement (the work); the ties are given (YtejnejplofddnaaGreatDoorTie.lean); close each card by the builder's one call (the guide's Derived/Test/ToyasCard.lean, 'card_holds'). Laid BY PROGRAM, IN A SANDBOX (cutbox-door.mjs). By AI agents, Wed Nov 11 2026. No macro, syntax, notation, axiom, sorry.
-/
import Derived.Test.YtejnejplofddnaaGreatDoorRows
import GoSem.ClaimSeven
namespace Go.Proofs.YtejnejplofddnaaGreatDoor
namespace Rows

/-- THE TIED CARD OF 'laws.FnMarks'. -/
def fnMarksCard : Claim7 := { stood := { row := fnMarksRow, standIns := [], harness := (true, "a4a7ac1ab447062c127393bea15fb01b411b66434c6a166e8a98e3b29bd119ec"), looks := true }, kinds := [], alts := [], laidByText := true, laidKinds := [.data, .data, .data, .data, .sentinel, .sentinel, .pinned], laidTests := true, laidLooks := .later }
def FnMarksCardSaid : Prop := Claim7.holds Tryz.pinned (.plain (OpenSpec.ofChange fnMarksSpec)) fnMarksCard

/-- THE TIED CARD OF 'laws.FnExactPaintMarks'. -/
def fnExactPaintMarksCard : Claim7 := { stood := { row := fnExactPaintMarksRow, standIns := [], harness := (true, "a4a7ac1ab447062c127393bea15fb01b411b66434c6a166e8a98e3b29bd119ec"), looks := true }, kinds := [], alts := [], laidByText := true, laidKinds := [.data, .pinned], laidTests := true, laidLooks := .later }
def FnExactPaintMarksCardSaid : Prop := Claim7.holds Tryz.pinned (.plain (OpenSpec.ofChange fnExactPaintMarksSpec)) fnExactPaintMarksCard

/-- THE SECOND FORM's CARD OF 'laws.FnMarks'. -/
def fnMarksUptoCard : Claim7 := { stood := { row := fnMarksUptoRow, standIns := [], harness := (true, "a4a7ac1ab447062c127393bea15fb01b411b66434c6a166e8a98e3b29bd119ec"), looks := true }, kinds := [], alts := [], laidByText := true, laidKinds := [.data, .data, .data, .data, .sentinel, .sentinel, .pinned], laidTests := true, laidLooks := .later }
def FnMarksUptoCardSaid : Prop := Claim7.holds Tryz.pinned (.plain (OpenSpec.upto fnMarksSpec)) fnMarksUptoCard

/-- THE SECOND FORM's CARD OF 'laws.FnExactPaintMarks'. -/
def fnExactPaintMarksUptoCard : Claim7 := { stood := { row := fnExactPaintMarksUptoRow, standIns := [], harness := (true, "a4a7ac1ab447062c127393bea15fb01b411b66434c6a166e8a98e3b29bd119ec"), looks := true }, kinds := [], alts := [], laidByText := true, laidKinds := [.data, .pinned], laidTests := true, laidLooks := .later }
def FnExactPaintMarksUptoCardSaid : Prop := Claim7.holds Tryz.pinned (.plain (OpenSpec.upto fnExactPaintMarksSpec)) fnExactPaintMarksUptoCard
end Rows
end Go.Proofs.YtejnejplofddnaaGreatDoor
