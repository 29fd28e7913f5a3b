/-
  DERIVED. GIVEN WITH THE SEED: THE CARDS: each row of YtifhffnppgkjgaaGreatDoorRows.lean that lists a variable, with what it lists TIED to the program's text (the seventh form; the later family's looks); each row that meets fmt, with fmt's text TOLD by the authors' own Lean function (tested against real Go, not proved from fmt's source: count such statements apart). THE CARD IS WHAT COUNTS. Prove the row's statement (the work); the ties are given (YtifhffnppgkjgaaGreatDoorTie.lean); close each card by the builder's one call (the guide's Derived/Test/ToyasCard.lean, 'card_holds'). Laid BY PROGRAM, IN A SANDBOX (cutbox-door.mjs). By AI agents, Wed Nov 11 2026. No macro, syntax, notation, axiom, sorry.
-/
import Derived.Test.YtifhffnppgkjgaaGreatDoorRows
import GoSem.ClaimSeven
namespace Go.Proofs.YtifhffnppgkjgaaGreatDoor
namespace Rows

/-- THE TIED CARD OF 'laws.FnExactCountOrders'. -/
def fnExactCountOrdersCard : Claim7 := { stood := { row := fnExactCountOrdersRow, standIns := [], harness := (true, "9f34abdadfac712703880cdce10f8f1f0d22177ad18ecc42c1ed8bc6327bd7e0"), looks := false }, kinds := [], alts := [], laidByText := true, laidKinds := [.data, .pinned], laidTests := true, laidLooks := .later }
def FnExactCountOrdersCardSaid : Prop := Claim7.holds Tryz.pinned (.plain (OpenSpec.ofChange fnExactCountOrdersSpec)) fnExactCountOrdersCard

/-- THE TIED CARD OF 'laws.FnExactSurelyBefore'. -/
def fnExactSurelyBeforeCard : Claim7 := { stood := { row := fnExactSurelyBeforeRow, standIns := [], harness := (true, "9f34abdadfac712703880cdce10f8f1f0d22177ad18ecc42c1ed8bc6327bd7e0"), looks := false }, kinds := [], alts := [], laidByText := true, laidKinds := [.data, .pinned], laidTests := true, laidLooks := .later }
def FnExactSurelyBeforeCardSaid : Prop := Claim7.holds Tryz.pinned (.plain (OpenSpec.ofChange fnExactSurelyBeforeSpec)) fnExactSurelyBeforeCard

/-- THE TIED CARD OF 'laws.FnExactForgedMark'. -/
def fnExactForgedMarkCard : Claim7 := { stood := { row := fnExactForgedMarkRow, standIns := [], harness := (true, "9f34abdadfac712703880cdce10f8f1f0d22177ad18ecc42c1ed8bc6327bd7e0"), looks := false }, kinds := [], alts := [], laidByText := true, laidKinds := [.data, .pinned], laidTests := true, laidLooks := .later }
def FnExactForgedMarkCardSaid : Prop := Claim7.holds Tryz.pinned (.plain (OpenSpec.ofChange fnExactForgedMarkSpec)) fnExactForgedMarkCard

/-- THE TIED CARD OF 'laws.FnExactOrderFor'. -/
def fnExactOrderForCard : Claim7 := { stood := { row := fnExactOrderForRow, standIns := [], harness := (true, "9f34abdadfac712703880cdce10f8f1f0d22177ad18ecc42c1ed8bc6327bd7e0"), looks := false }, kinds := [], alts := [], laidByText := true, laidKinds := [.data, .pinned], laidTests := true, laidLooks := .later }
def FnExactOrderForCardSaid : Prop := Claim7.holds Tryz.pinned (.plain (OpenSpec.ofChange fnExactOrderForSpec)) fnExactOrderForCard

/-- THE SECOND FORM's CARD OF 'laws.FnExactCountOrders'. -/
def fnExactCountOrdersUptoCard : Claim7 := { stood := { row := fnExactCountOrdersUptoRow, standIns := [], harness := (true, "9f34abdadfac712703880cdce10f8f1f0d22177ad18ecc42c1ed8bc6327bd7e0"), looks := false }, kinds := [], alts := [], laidByText := true, laidKinds := [.data, .pinned], laidTests := true, laidLooks := .later }
def FnExactCountOrdersUptoCardSaid : Prop := Claim7.holds Tryz.pinned (.plain (OpenSpec.upto fnExactCountOrdersSpec)) fnExactCountOrdersUptoCard

/-- THE SECOND FORM's CARD OF 'laws.FnExactSurelyBefore'. -/
def fnExactSurelyBeforeUptoCard : Claim7 := { stood := { row := fnExactSurelyBeforeUptoRow, standIns := [], harness := (true, "9f34abdadfac712703880cdce10f8f1f0d22177ad18ecc42c1ed8bc6327bd7e0"), looks := false }, kinds := [], alts := [], laidByText := true, laidKinds := [.data, .pinned], laidTests := true, laidLooks := .later }
def FnExactSurelyBeforeUptoCardSaid : Prop := Claim7.holds Tryz.pinned (.plain (OpenSpec.upto fnExactSurelyBeforeSpec)) fnExactSurelyBeforeUptoCard

/-- THE SECOND FORM's CARD OF 'laws.FnExactForgedMark'. -/
def fnExactForgedMarkUptoCard : Claim7 := { stood := { row := fnExactForgedMarkUptoRow, standIns := [], harness := (true, "9f34abdadfac712703880cdce10f8f1f0d22177ad18ecc42c1ed8bc6327bd7e0"), looks := false }, kinds := [], alts := [], laidByText := true, laidKinds := [.data, .pinned], laidTests := true, laidLooks := .later }
def FnExactForgedMarkUptoCardSaid : Prop := Claim7.holds Tryz.pinned (.plain (OpenSpec.upto fnExactForgedMarkSpec)) fnExactForgedMarkUptoCard

/-- THE SECOND FORM's CARD OF 'laws.FnExactOrderFor'. -/
def fnExactOrderForUptoCard : Claim7 := { stood := { row := fnExactOrderForUptoRow, standIns := [], harness := (true, "9f34abdadfac712703880cdce10f8f1f0d22177ad18ecc42c1ed8bc6327bd7e0"), looks := false }, kinds := [], alts := [], laidByText := true, laidKinds := [.data, .pinned], laidTests := true, laidLooks := .later }
def FnExactOrderForUptoCardSaid : Prop := Claim7.holds Tryz.pinned (.plain (OpenSpec.upto fnExactOrderForSpec)) fnExactOrderForUptoCard
end Rows
end Go.Proofs.YtifhffnppgkjgaaGreatDoor
