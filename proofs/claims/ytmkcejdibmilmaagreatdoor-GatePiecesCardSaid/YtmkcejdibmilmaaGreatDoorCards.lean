/-
  DERIVED. GIVEN WITH THE SEED: THE CARDS: each row of YtmkcejdibmilmaaGreatDoorRows.lean that lists a variable, with what it lists TIED to the program's text (the seventh form; the later family's looks); each row that meets fmt, with fmt's text TOLD by the authors' own Lean function (tested against real Go, not proved from fmt's source: count such statements apart). THE CARD IS WHAT COUNTS. Prove the row's statement (the work); the ties are given (YtmkcejdibmilmaaGreatDoorTie.lean); close each card by the builder's one call (the guide's Derived/Test/ToyasCard.lean, 'card_holds'). Laid BY PROGRAM, IN A SANDBOX (cutbox-door.mjs). By AI agents, Wed Nov 11 2026. No macro, syntax, notation, axiom, sorry.
-/
import Derived.Test.YtmkcejdibmilmaaGreatDoorRows
import GoSem.ClaimSeven
namespace Go.Proofs.YtmkcejdibmilmaaGreatDoor
namespace Rows

/-- THE TIED CARD OF 'lighteragelaw.GatePieces'. -/
def gatePiecesCard : Claim7 := { stood := { row := gatePiecesRow, standIns := [], harness := (true, "824e33335f3b799df0a35bc5b83287a53f67353f72fbb256093996e35e6e4c9e"), looks := true }, kinds := [], alts := [], laidByText := true, laidKinds := [.data, .data, .data, .data, .pinned], laidTests := true, laidLooks := .later }
def GatePiecesCardSaid : Prop := Claim7.holds Tryz.pinned (.plain (OpenSpec.ofChange gatePiecesSpec)) gatePiecesCard

/-- THE TIED CARD OF 'lighteragelaw.GateApart'. -/
def gateApartCard : Claim7 := { stood := { row := gateApartRow, standIns := [], harness := (true, "824e33335f3b799df0a35bc5b83287a53f67353f72fbb256093996e35e6e4c9e"), looks := true }, kinds := [], alts := [], laidByText := true, laidKinds := [.data, .data, .data, .data, .pinned], laidTests := true, laidLooks := .later }
def GateApartCardSaid : Prop := Claim7.holds Tryz.pinned (.plain (OpenSpec.ofChange gateApartSpec)) gateApartCard

/-- THE TIED CARD OF 'lighteragelaw.GateDoes'. -/
def gateDoesCard : Claim7 := { stood := { row := gateDoesRow, standIns := [], harness := (true, "824e33335f3b799df0a35bc5b83287a53f67353f72fbb256093996e35e6e4c9e"), looks := true }, kinds := [], alts := [], laidByText := true, laidKinds := [.data, .data, .data, .data, .pinned], laidTests := true, laidLooks := .later }
def GateDoesCardSaid : Prop := Claim7.holds Tryz.pinned (.plain (OpenSpec.ofChange gateDoesSpec)) gateDoesCard

/-- THE SECOND FORM's CARD OF 'lighteragelaw.GatePieces'. -/
def gatePiecesUptoCard : Claim7 := { stood := { row := gatePiecesUptoRow, standIns := [], harness := (true, "824e33335f3b799df0a35bc5b83287a53f67353f72fbb256093996e35e6e4c9e"), looks := true }, kinds := [], alts := [], laidByText := true, laidKinds := [.data, .data, .data, .data, .pinned], laidTests := true, laidLooks := .later }
def GatePiecesUptoCardSaid : Prop := Claim7.holds Tryz.pinned (.plain (OpenSpec.upto gatePiecesSpec)) gatePiecesUptoCard

/-- THE SECOND FORM's CARD OF 'lighteragelaw.GateApart'. -/
def gateApartUptoCard : Claim7 := { stood := { row := gateApartUptoRow, standIns := [], harness := (true, "824e33335f3b799df0a35bc5b83287a53f67353f72fbb256093996e35e6e4c9e"), looks := true }, kinds := [], alts := [], laidByText := true, laidKinds := [.data, .data, .data, .data, .pinned], laidTests := true, laidLooks := .later }
def GateApartUptoCardSaid : Prop := Claim7.holds Tryz.pinned (.plain (OpenSpec.upto gateApartSpec)) gateApartUptoCard

/-- THE SECOND FORM's CARD OF 'lighteragelaw.GateDoes'. -/
def gateDoesUptoCard : Claim7 := { stood := { row := gateDoesUptoRow, standIns := [], harness := (true, "824e33335f3b799df0a35bc5b83287a53f67353f72fbb256093996e35e6e4c9e"), looks := true }, kinds := [], alts := [], laidByText := true, laidKinds := [.data, .data, .data, .data, .pinned], laidTests := true, laidLooks := .later }
def GateDoesUptoCardSaid : Prop := Claim7.holds Tryz.pinned (.plain (OpenSpec.upto gateDoesSpec)) gateDoesUptoCard
end Rows
end Go.Proofs.YtmkcejdibmilmaaGreatDoor
