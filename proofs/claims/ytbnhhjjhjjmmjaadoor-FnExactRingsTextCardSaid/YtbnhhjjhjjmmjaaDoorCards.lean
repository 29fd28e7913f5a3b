/-
  DERIVED. GIVEN WITH THE SEED: THE CARDS: each row of YtbnhhjjhjjmmjaaDoorRows.lean that lists a variable, with what it lists TIED to the program's text (the seventh form; the later family's looks); each row that meets fmt, with fmt's text TOLD by the authors' own Lean function (tested against real Go, not proved from fmt's source: count such statements apart). THE CARD IS WHAT COUNTS. Prove the row's statement (the work); the ties are given (YtbnhhjjhjjmmjaaDoorTie.lean); close each card by the builder's one call (the guide's Derived/Test/ToyasCard.lean, 'card_holds'). Laid BY PROGRAM, IN A SANDBOX (cutbox-door.mjs). By AI agents, Wed Nov 11 2026. No macro, syntax, notation, axiom, sorry.
-/
import Derived.Test.YtbnhhjjhjjmmjaaDoorRows
import GoSem.ClaimSeven
namespace Go.Proofs.YtbnhhjjhjjmmjaaDoor
namespace Rows

/-- THE TIED CARD OF 'laws.FnExactMarkText'. -/
def fnExactMarkTextCard : Claim7 := { stood := { row := fnExactMarkTextRow, standIns := [], harness := (true, "8e4491b437148f1f43dd5d10bead25b442fc85b3a291dfdd4aa45c9abae77a87"), looks := true }, kinds := [], alts := [], laidByText := true, laidKinds := [.data, .data, .data], laidTests := true, laidLooks := .later }
def FnExactMarkTextCardSaid : Prop := Claim7.holds Tryd.pinned (.plain (OpenSpec.ofChange fnExactMarkTextSpec)) fnExactMarkTextCard

/-- THE TIED CARD OF 'laws.FnExactPathText'. -/
def fnExactPathTextCard : Claim7 := { stood := { row := fnExactPathTextRow, standIns := [], harness := (true, "8e4491b437148f1f43dd5d10bead25b442fc85b3a291dfdd4aa45c9abae77a87"), looks := true }, kinds := [], alts := [], laidByText := true, laidKinds := [.data, .data, .data], laidTests := true, laidLooks := .later }
def FnExactPathTextCardSaid : Prop := Claim7.holds Tryd.pinned (.plain (OpenSpec.ofChange fnExactPathTextSpec)) fnExactPathTextCard

/-- THE TIED CARD OF 'laws.FnExactFoldsText'. -/
def fnExactFoldsTextCard : Claim7 := { stood := { row := fnExactFoldsTextRow, standIns := [], harness := (true, "8e4491b437148f1f43dd5d10bead25b442fc85b3a291dfdd4aa45c9abae77a87"), looks := true }, kinds := [], alts := [], laidByText := true, laidKinds := [.data, .data, .data], laidTests := true, laidLooks := .later }
def FnExactFoldsTextCardSaid : Prop := Claim7.holds Tryd.pinned (.plain (OpenSpec.ofChange fnExactFoldsTextSpec)) fnExactFoldsTextCard

/-- THE TIED CARD OF 'laws.FnExactRingsText'. -/
def fnExactRingsTextCard : Claim7 := { stood := { row := fnExactRingsTextRow, standIns := [], harness := (true, "8e4491b437148f1f43dd5d10bead25b442fc85b3a291dfdd4aa45c9abae77a87"), looks := true }, kinds := [], alts := [], laidByText := true, laidKinds := [.data, .data, .data], laidTests := true, laidLooks := .later }
def FnExactRingsTextCardSaid : Prop := Claim7.holds Tryd.pinned (.plain (OpenSpec.ofChange fnExactRingsTextSpec)) fnExactRingsTextCard

/-- THE TIED CARD OF 'laws.FnExactReadPath'. -/
def fnExactReadPathCard : Claim7 := { stood := { row := fnExactReadPathRow, standIns := [], harness := (true, "8e4491b437148f1f43dd5d10bead25b442fc85b3a291dfdd4aa45c9abae77a87"), looks := true }, kinds := [], alts := [], laidByText := true, laidKinds := [.data, .data, .data, .sentinel, .sentinel], laidTests := true, laidLooks := .later }
def FnExactReadPathCardSaid : Prop := Claim7.holds Tryd.pinned (.plain (OpenSpec.ofChange fnExactReadPathSpec)) fnExactReadPathCard

/-- THE TIED CARD OF 'laws.FnExactReadMark'. -/
def fnExactReadMarkCard : Claim7 := { stood := { row := fnExactReadMarkRow, standIns := [], harness := (true, "8e4491b437148f1f43dd5d10bead25b442fc85b3a291dfdd4aa45c9abae77a87"), looks := true }, kinds := [], alts := [], laidByText := true, laidKinds := [.data, .data, .data, .data, .sentinel, .sentinel, .pinned], laidTests := true, laidLooks := .later }
def FnExactReadMarkCardSaid : Prop := Claim7.holds Tryd.pinned (.plain (OpenSpec.ofChange fnExactReadMarkSpec)) fnExactReadMarkCard

/-- THE TIED CARD OF 'laws.FnExactReadFolds'. -/
def fnExactReadFoldsCard : Claim7 := { stood := { row := fnExactReadFoldsRow, standIns := [], harness := (true, "8e4491b437148f1f43dd5d10bead25b442fc85b3a291dfdd4aa45c9abae77a87"), looks := true }, kinds := [], alts := [], laidByText := true, laidKinds := [.data, .data, .data, .data, .sentinel, .sentinel, .pinned], laidTests := true, laidLooks := .later }
def FnExactReadFoldsCardSaid : Prop := Claim7.holds Tryd.pinned (.plain (OpenSpec.ofChange fnExactReadFoldsSpec)) fnExactReadFoldsCard

/-- THE TIED CARD OF 'laws.FnExactReadRings'. -/
def fnExactReadRingsCard : Claim7 := { stood := { row := fnExactReadRingsRow, standIns := [], harness := (true, "8e4491b437148f1f43dd5d10bead25b442fc85b3a291dfdd4aa45c9abae77a87"), looks := true }, kinds := [], alts := [], laidByText := true, laidKinds := [.data, .data, .data, .data, .sentinel, .sentinel, .pinned], laidTests := true, laidLooks := .later }
def FnExactReadRingsCardSaid : Prop := Claim7.holds Tryd.pinned (.plain (OpenSpec.ofChange fnExactReadRingsSpec)) fnExactReadRingsCard

/-- THE SECOND FORM's CARD OF 'laws.FnExactMarkText'. -/
def fnExactMarkTextUptoCard : Claim7 := { stood := { row := fnExactMarkTextUptoRow, standIns := [], harness := (true, "8e4491b437148f1f43dd5d10bead25b442fc85b3a291dfdd4aa45c9abae77a87"), looks := true }, kinds := [], alts := [], laidByText := true, laidKinds := [.data, .data, .data], laidTests := true, laidLooks := .later }
def FnExactMarkTextUptoCardSaid : Prop := Claim7.holds Tryd.pinned (.plain (OpenSpec.upto fnExactMarkTextSpec)) fnExactMarkTextUptoCard

/-- THE SECOND FORM's CARD OF 'laws.FnExactPathText'. -/
def fnExactPathTextUptoCard : Claim7 := { stood := { row := fnExactPathTextUptoRow, standIns := [], harness := (true, "8e4491b437148f1f43dd5d10bead25b442fc85b3a291dfdd4aa45c9abae77a87"), looks := true }, kinds := [], alts := [], laidByText := true, laidKinds := [.data, .data, .data], laidTests := true, laidLooks := .later }
def FnExactPathTextUptoCardSaid : Prop := Claim7.holds Tryd.pinned (.plain (OpenSpec.upto fnExactPathTextSpec)) fnExactPathTextUptoCard

/-- THE SECOND FORM's CARD OF 'laws.FnExactFoldsText'. -/
def fnExactFoldsTextUptoCard : Claim7 := { stood := { row := fnExactFoldsTextUptoRow, standIns := [], harness := (true, "8e4491b437148f1f43dd5d10bead25b442fc85b3a291dfdd4aa45c9abae77a87"), looks := true }, kinds := [], alts := [], laidByText := true, laidKinds := [.data, .data, .data], laidTests := true, laidLooks := .later }
def FnExactFoldsTextUptoCardSaid : Prop := Claim7.holds Tryd.pinned (.plain (OpenSpec.upto fnExactFoldsTextSpec)) fnExactFoldsTextUptoCard

/-- THE SECOND FORM's CARD OF 'laws.FnExactRingsText'. -/
def fnExactRingsTextUptoCard : Claim7 := { stood := { row := fnExactRingsTextUptoRow, standIns := [], harness := (true, "8e4491b437148f1f43dd5d10bead25b442fc85b3a291dfdd4aa45c9abae77a87"), looks := true }, kinds := [], alts := [], laidByText := true, laidKinds := [.data, .data, .data], laidTests := true, laidLooks := .later }
def FnExactRingsTextUptoCardSaid : Prop := Claim7.holds Tryd.pinned (.plain (OpenSpec.upto fnExactRingsTextSpec)) fnExactRingsTextUptoCard

/-- THE SECOND FORM's CARD OF 'laws.FnExactReadPath'. -/
def fnExactReadPathUptoCard : Claim7 := { stood := { row := fnExactReadPathUptoRow, standIns := [], harness := (true, "8e4491b437148f1f43dd5d10bead25b442fc85b3a291dfdd4aa45c9abae77a87"), looks := true }, kinds := [], alts := [], laidByText := true, laidKinds := [.data, .data, .data, .sentinel, .sentinel], laidTests := true, laidLooks := .later }
def FnExactReadPathUptoCardSaid : Prop := Claim7.holds Tryd.pinned (.plain (OpenSpec.upto fnExactReadPathSpec)) fnExactReadPathUptoCard

/-- THE SECOND FORM's CARD OF 'laws.FnExactReadMark'. -/
def fnExactReadMarkUptoCard : Claim7 := { stood := { row := fnExactReadMarkUptoRow, standIns := [], harness := (true, "8e4491b437148f1f43dd5d10bead25b442fc85b3a291dfdd4aa45c9abae77a87"), looks := true }, kinds := [], alts := [], laidByText := true, laidKinds := [.data, .data, .data, .data, .sentinel, .sentinel, .pinned], laidTests := true, laidLooks := .later }
def FnExactReadMarkUptoCardSaid : Prop := Claim7.holds Tryd.pinned (.plain (OpenSpec.upto fnExactReadMarkSpec)) fnExactReadMarkUptoCard

/-- THE SECOND FORM's CARD OF 'laws.FnExactReadFolds'. -/
def fnExactReadFoldsUptoCard : Claim7 := { stood := { row := fnExactReadFoldsUptoRow, standIns := [], harness := (true, "8e4491b437148f1f43dd5d10bead25b442fc85b3a291dfdd4aa45c9abae77a87"), looks := true }, kinds := [], alts := [], laidByText := true, laidKinds := [.data, .data, .data, .data, .sentinel, .sentinel, .pinned], laidTests := true, laidLooks := .later }
def FnExactReadFoldsUptoCardSaid : Prop := Claim7.holds Tryd.pinned (.plain (OpenSpec.upto fnExactReadFoldsSpec)) fnExactReadFoldsUptoCard

/-- THE SECOND FORM's CARD OF 'laws.FnExactReadRings'. -/
def fnExactReadRingsUptoCard : Claim7 := { stood := { row := fnExactReadRingsUptoRow, standIns := [], harness := (true, "8e4491b437148f1f43dd5d10bead25b442fc85b3a291dfdd4aa45c9abae77a87"), looks := true }, kinds := [], alts := [], laidByText := true, laidKinds := [.data, .data, .data, .data, .sentinel, .sentinel, .pinned], laidTests := true, laidLooks := .later }
def FnExactReadRingsUptoCardSaid : Prop := Claim7.holds Tryd.pinned (.plain (OpenSpec.upto fnExactReadRingsSpec)) fnExactReadRingsUptoCard
end Rows
end Go.Proofs.YtbnhhjjhjjmmjaaDoor
