/-
  DERIVED. GIVEN WITH THE SEED: THE CARDS: each row of YtkjepecoodjbmaaGreatDoorRows.lean that lists a variable, with what it lists TIED to the program's text (the seventh form; the later family's looks); each row that meets fmt, with fmt's text TOLD by the authors' own Lean function (tested against real Go, not proved from fmt's source: count such statements apart). THE CARD IS WHAT COUNTS. Prove the row's statement (the work); the ties are given (YtkjepecoodjbmaaGreatDoorTie.lean); close each card by the builder's one call (the guide's Derived/Test/ToyasCard.lean, 'card_holds'). Laid BY PROGRAM, IN A SANDBOX (cutbox-door.mjs). By AI agents, Wed Nov 11 2026. No macro, syntax, notation, axiom, sorry.
-/
import Derived.Test.YtkjepecoodjbmaaGreatDoorRows
import GoSem.ClaimSeven
namespace Go.Proofs.YtkjepecoodjbmaaGreatDoor
namespace Rows

/-- THE TIED CARD OF 'lighteragelaw.GateApart'. -/
def gateApartCard : Claim7 := { stood := { row := gateApartRow, standIns := [], harness := (true, "e8fa0a1ea2f43572af4d01443e3c1d40ca1b225517ead043aa67a0e6b3f20f1c"), looks := true }, kinds := [], alts := [], laidByText := true, laidKinds := [.data, .data, .data, .data, .pinned], laidTests := true, laidLooks := .later }
def GateApartCardSaid : Prop := Claim7.holds Tryz.pinned (.plain (OpenSpec.ofChange gateApartSpec)) gateApartCard

/-- THE TIED CARD OF 'lighteragelaw.GateDoes'. -/
def gateDoesCard : Claim7 := { stood := { row := gateDoesRow, standIns := [], harness := (true, "e8fa0a1ea2f43572af4d01443e3c1d40ca1b225517ead043aa67a0e6b3f20f1c"), looks := true }, kinds := [], alts := [], laidByText := true, laidKinds := [.data, .data, .data, .data, .pinned], laidTests := true, laidLooks := .later }
def GateDoesCardSaid : Prop := Claim7.holds Tryz.pinned (.plain (OpenSpec.ofChange gateDoesSpec)) gateDoesCard

/-- THE TIED CARD OF 'lighteragelaw.PortOnce'. -/
def portOnceCard : Claim7 := { stood := { row := portOnceRow, standIns := [], harness := (true, "e8fa0a1ea2f43572af4d01443e3c1d40ca1b225517ead043aa67a0e6b3f20f1c"), looks := true }, kinds := [], alts := [], laidByText := true, laidKinds := [.data, .data, .data, .data, .pinned], laidTests := true, laidLooks := .later }
def PortOnceCardSaid : Prop := Claim7.holds Tryz.pinned (.plain (OpenSpec.ofChange portOnceSpec)) portOnceCard

/-- THE TIED CARD OF 'lighteragelaw.PortKeeps'. -/
def portKeepsCard : Claim7 := { stood := { row := portKeepsRow, standIns := [], harness := (true, "e8fa0a1ea2f43572af4d01443e3c1d40ca1b225517ead043aa67a0e6b3f20f1c"), looks := true }, kinds := [], alts := [], laidByText := true, laidKinds := [.data, .data, .data, .data, .pinned], laidTests := true, laidLooks := .later }
def PortKeepsCardSaid : Prop := Claim7.holds Tryz.pinned (.plain (OpenSpec.ofChange portKeepsSpec)) portKeepsCard

/-- THE TIED CARD OF 'lighteragelaw.PortAgain'. -/
def portAgainCard : Claim7 := { stood := { row := portAgainRow, standIns := [], harness := (true, "e8fa0a1ea2f43572af4d01443e3c1d40ca1b225517ead043aa67a0e6b3f20f1c"), looks := true }, kinds := [], alts := [], laidByText := true, laidKinds := [.data, .data, .data, .data, .pinned], laidTests := true, laidLooks := .later }
def PortAgainCardSaid : Prop := Claim7.holds Tryz.pinned (.plain (OpenSpec.ofChange portAgainSpec)) portAgainCard

/-- THE TIED CARD OF 'lighteragelaw.PortDoes'. -/
def portDoesCard : Claim7 := { stood := { row := portDoesRow, standIns := [], harness := (true, "e8fa0a1ea2f43572af4d01443e3c1d40ca1b225517ead043aa67a0e6b3f20f1c"), looks := true }, kinds := [], alts := [], laidByText := true, laidKinds := [.data, .data, .data, .data, .pinned], laidTests := true, laidLooks := .later }
def PortDoesCardSaid : Prop := Claim7.holds Tryz.pinned (.plain (OpenSpec.ofChange portDoesSpec)) portDoesCard

/-- THE SECOND FORM's CARD OF 'lighteragelaw.GateApart'. -/
def gateApartUptoCard : Claim7 := { stood := { row := gateApartUptoRow, standIns := [], harness := (true, "e8fa0a1ea2f43572af4d01443e3c1d40ca1b225517ead043aa67a0e6b3f20f1c"), looks := true }, kinds := [], alts := [], laidByText := true, laidKinds := [.data, .data, .data, .data, .pinned], laidTests := true, laidLooks := .later }
def GateApartUptoCardSaid : Prop := Claim7.holds Tryz.pinned (.plain (OpenSpec.upto gateApartSpec)) gateApartUptoCard

/-- THE SECOND FORM's CARD OF 'lighteragelaw.GateDoes'. -/
def gateDoesUptoCard : Claim7 := { stood := { row := gateDoesUptoRow, standIns := [], harness := (true, "e8fa0a1ea2f43572af4d01443e3c1d40ca1b225517ead043aa67a0e6b3f20f1c"), looks := true }, kinds := [], alts := [], laidByText := true, laidKinds := [.data, .data, .data, .data, .pinned], laidTests := true, laidLooks := .later }
def GateDoesUptoCardSaid : Prop := Claim7.holds Tryz.pinned (.plain (OpenSpec.upto gateDoesSpec)) gateDoesUptoCard

/-- THE SECOND FORM's CARD OF 'lighteragelaw.PortOnce'. -/
def portOnceUptoCard : Claim7 := { stood := { row := portOnceUptoRow, standIns := [], harness := (true, "e8fa0a1ea2f43572af4d01443e3c1d40ca1b225517ead043aa67a0e6b3f20f1c"), looks := true }, kinds := [], alts := [], laidByText := true, laidKinds := [.data, .data, .data, .data, .pinned], laidTests := true, laidLooks := .later }
def PortOnceUptoCardSaid : Prop := Claim7.holds Tryz.pinned (.plain (OpenSpec.upto portOnceSpec)) portOnceUptoCard

/-- THE SECOND FORM's CARD OF 'lighteragelaw.PortKeeps'. -/
def portKeepsUptoCard : Claim7 := { stood := { row := portKeepsUptoRow, standIns := [], harness := (true, "e8fa0a1ea2f43572af4d01443e3c1d40ca1b225517ead043aa67a0e6b3f20f1c"), looks := true }, kinds := [], alts := [], laidByText := true, laidKinds := [.data, .data, .data, .data, .pinned], laidTests := true, laidLooks := .later }
def PortKeepsUptoCardSaid : Prop := Claim7.holds Tryz.pinned (.plain (OpenSpec.upto portKeepsSpec)) portKeepsUptoCard

/-- THE SECOND FORM's CARD OF 'lighteragelaw.PortAgain'. -/
def portAgainUptoCard : Claim7 := { stood := { row := portAgainUptoRow, standIns := [], harness := (true, "e8fa0a1ea2f43572af4d01443e3c1d40ca1b225517ead043aa67a0e6b3f20f1c"), looks := true }, kinds := [], alts := [], laidByText := true, laidKinds := [.data, .data, .data, .data, .pinned], laidTests := true, laidLooks := .later }
def PortAgainUptoCardSaid : Prop := Claim7.holds Tryz.pinned (.plain (OpenSpec.upto portAgainSpec)) portAgainUptoCard

/-- THE SECOND FORM's CARD OF 'lighteragelaw.PortDoes'. -/
def portDoesUptoCard : Claim7 := { stood := { row := portDoesUptoRow, standIns := [], harness := (true, "e8fa0a1ea2f43572af4d01443e3c1d40ca1b225517ead043aa67a0e6b3f20f1c"), looks := true }, kinds := [], alts := [], laidByText := true, laidKinds := [.data, .data, .data, .data, .pinned], laidTests := true, laidLooks := .later }
def PortDoesUptoCardSaid : Prop := Claim7.holds Tryz.pinned (.plain (OpenSpec.upto portDoesSpec)) portDoesUptoCard
end Rows
end Go.Proofs.YtkjepecoodjbmaaGreatDoor
