/-
  DERIVED. GIVEN WITH THE SEED: THE CARDS: each row of YtcclfkakcgnacaaGreatDoorRows.lean that lists a variable, with what it lists TIED to the program's text (the seventh form; the later family's looks); each row that meets fmt, with fmt's text TOLD by the authors' own Lean function (tested against real Go, not proved from fmt's source: count such statements apart). THE CARD IS WHAT COUNTS. Prove the row's statement (the work); the ties are given (YtcclfkakcgnacaaGreatDoorTie.lean); close each card by the builder's one call (the guide's Derived/Test/ToyasCard.lean, 'card_holds'). Laid BY PROGRAM, IN A SANDBOX (cutbox-door.mjs). By AI agents, Wed Nov 11 2026. No macro, syntax, notation, axiom, sorry.
-/
import Derived.Test.YtcclfkakcgnacaaGreatDoorRows
import GoSem.ClaimSeven
namespace Go.Proofs.YtcclfkakcgnacaaGreatDoor
namespace Rows

/-- THE TIED CARD OF 'lighteragelaw.TusDoes'. -/
def tusDoesCard : Claim7 := { stood := { row := tusDoesRow, standIns := [], harness := (true, "85fd4a84ca3d89b558db361b8deb064db80bfae9df72b8b33014898d1e027770"), looks := true }, kinds := [], alts := [], laidByText := true, laidKinds := [.data, .data, .data, .data, .pinned], laidTests := true, laidLooks := .later }
def TusDoesCardSaid : Prop := Claim7.holds Tryz.pinned (.plain (OpenSpec.ofChange tusDoesSpec)) tusDoesCard

/-- THE TIED CARD OF 'lighteragelaw.TusStays'. -/
def tusStaysCard : Claim7 := { stood := { row := tusStaysRow, standIns := [], harness := (true, "85fd4a84ca3d89b558db361b8deb064db80bfae9df72b8b33014898d1e027770"), looks := true }, kinds := [], alts := [], laidByText := true, laidKinds := [.data, .data, .data, .data, .pinned], laidTests := true, laidLooks := .later }
def TusStaysCardSaid : Prop := Claim7.holds Tryz.pinned (.plain (OpenSpec.ofChange tusStaysSpec)) tusStaysCard

/-- THE TIED CARD OF 'lighteragelaw.TusTells'. -/
def tusTellsCard : Claim7 := { stood := { row := tusTellsRow, standIns := [], harness := (true, "85fd4a84ca3d89b558db361b8deb064db80bfae9df72b8b33014898d1e027770"), looks := true }, kinds := [], alts := [], laidByText := true, laidKinds := [.data, .data, .data, .data, .pinned], laidTests := true, laidLooks := .later }
def TusTellsCardSaid : Prop := Claim7.holds Tryz.pinned (.plain (OpenSpec.ofChange tusTellsSpec)) tusTellsCard

/-- THE SECOND FORM's CARD OF 'lighteragelaw.TusDoes'. -/
def tusDoesUptoCard : Claim7 := { stood := { row := tusDoesUptoRow, standIns := [], harness := (true, "85fd4a84ca3d89b558db361b8deb064db80bfae9df72b8b33014898d1e027770"), looks := true }, kinds := [], alts := [], laidByText := true, laidKinds := [.data, .data, .data, .data, .pinned], laidTests := true, laidLooks := .later }
def TusDoesUptoCardSaid : Prop := Claim7.holds Tryz.pinned (.plain (OpenSpec.upto tusDoesSpec)) tusDoesUptoCard

/-- THE SECOND FORM's CARD OF 'lighteragelaw.TusStays'. -/
def tusStaysUptoCard : Claim7 := { stood := { row := tusStaysUptoRow, standIns := [], harness := (true, "85fd4a84ca3d89b558db361b8deb064db80bfae9df72b8b33014898d1e027770"), looks := true }, kinds := [], alts := [], laidByText := true, laidKinds := [.data, .data, .data, .data, .pinned], laidTests := true, laidLooks := .later }
def TusStaysUptoCardSaid : Prop := Claim7.holds Tryz.pinned (.plain (OpenSpec.upto tusStaysSpec)) tusStaysUptoCard

/-- THE SECOND FORM's CARD OF 'lighteragelaw.TusTells'. -/
def tusTellsUptoCard : Claim7 := { stood := { row := tusTellsUptoRow, standIns := [], harness := (true, "85fd4a84ca3d89b558db361b8deb064db80bfae9df72b8b33014898d1e027770"), looks := true }, kinds := [], alts := [], laidByText := true, laidKinds := [.data, .data, .data, .data, .pinned], laidTests := true, laidLooks := .later }
def TusTellsUptoCardSaid : Prop := Claim7.holds Tryz.pinned (.plain (OpenSpec.upto tusTellsSpec)) tusTellsUptoCard
end Rows
end Go.Proofs.YtcclfkakcgnacaaGreatDoor
