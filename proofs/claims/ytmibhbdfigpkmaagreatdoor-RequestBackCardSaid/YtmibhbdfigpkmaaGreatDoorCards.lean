/-
  DERIVED. GIVEN WITH THE SEED: THE CARDS: each row of YtmibhbdfigpkmaaGreatDoorRows.lean that lists a variable, with what it lists TIED to the program's text (the seventh form; the later family's looks); each row that meets fmt, with fmt's text TOLD by the authors' own Lean function (tested against real Go, not proved from fmt's source: count such statements apart). THE CARD IS WHAT COUNTS. Prove the row's statement (the work); the ties are given (YtmibhbdfigpkmaaGreatDoorTie.lean); close each card by the builder's one call (the guide's Derived/Test/ToyasCard.lean, 'card_holds'). Laid BY PROGRAM, IN A SANDBOX (cutbox-door.mjs). By AI agents, Wed Nov 11 2026. No macro, syntax, notation, axiom, sorry.
-/
import Derived.Test.YtmibhbdfigpkmaaGreatDoorRows
import GoSem.ClaimSeven
namespace Go.Proofs.YtmibhbdfigpkmaaGreatDoor
namespace Rows

/-- THE TIED CARD OF 'lighteragelaw.RequestDoes'. -/
def requestDoesCard : Claim7 := { stood := { row := requestDoesRow, standIns := [], harness := (true, "10636db16081fe80fb29bce91d442a3f4f23b53169e585dad29e4e9a6c287aef"), looks := false }, kinds := [], alts := [], laidByText := true, laidKinds := [.data, .data, .data, .data, .pinned], laidTests := true, laidLooks := .later }
def RequestDoesCardSaid : Prop := Claim7.holds Tryz.pinned (.plain (OpenSpec.ofChange requestDoesSpec)) requestDoesCard

/-- THE TIED CARD OF 'lighteragelaw.RequestPieces'. -/
def requestPiecesCard : Claim7 := { stood := { row := requestPiecesRow, standIns := [], harness := (true, "10636db16081fe80fb29bce91d442a3f4f23b53169e585dad29e4e9a6c287aef"), looks := false }, kinds := [], alts := [], laidByText := true, laidKinds := [.data, .data, .data, .data, .pinned], laidTests := true, laidLooks := .later }
def RequestPiecesCardSaid : Prop := Claim7.holds Tryz.pinned (.plain (OpenSpec.ofChange requestPiecesSpec)) requestPiecesCard

/-- THE TIED CARD OF 'lighteragelaw.RequestBack'. -/
def requestBackCard : Claim7 := { stood := { row := requestBackRow, standIns := [], harness := (true, "10636db16081fe80fb29bce91d442a3f4f23b53169e585dad29e4e9a6c287aef"), looks := false }, kinds := [], alts := [], laidByText := true, laidKinds := [.data, .data, .data, .data, .pinned], laidTests := true, laidLooks := .later }
def RequestBackCardSaid : Prop := Claim7.holds Tryz.pinned (.plain (OpenSpec.ofChange requestBackSpec)) requestBackCard

/-- THE SECOND FORM's CARD OF 'lighteragelaw.RequestDoes'. -/
def requestDoesUptoCard : Claim7 := { stood := { row := requestDoesUptoRow, standIns := [], harness := (true, "10636db16081fe80fb29bce91d442a3f4f23b53169e585dad29e4e9a6c287aef"), looks := false }, kinds := [], alts := [], laidByText := true, laidKinds := [.data, .data, .data, .data, .pinned], laidTests := true, laidLooks := .later }
def RequestDoesUptoCardSaid : Prop := Claim7.holds Tryz.pinned (.plain (OpenSpec.upto requestDoesSpec)) requestDoesUptoCard

/-- THE SECOND FORM's CARD OF 'lighteragelaw.RequestPieces'. -/
def requestPiecesUptoCard : Claim7 := { stood := { row := requestPiecesUptoRow, standIns := [], harness := (true, "10636db16081fe80fb29bce91d442a3f4f23b53169e585dad29e4e9a6c287aef"), looks := false }, kinds := [], alts := [], laidByText := true, laidKinds := [.data, .data, .data, .data, .pinned], laidTests := true, laidLooks := .later }
def RequestPiecesUptoCardSaid : Prop := Claim7.holds Tryz.pinned (.plain (OpenSpec.upto requestPiecesSpec)) requestPiecesUptoCard

/-- THE SECOND FORM's CARD OF 'lighteragelaw.RequestBack'. -/
def requestBackUptoCard : Claim7 := { stood := { row := requestBackUptoRow, standIns := [], harness := (true, "10636db16081fe80fb29bce91d442a3f4f23b53169e585dad29e4e9a6c287aef"), looks := false }, kinds := [], alts := [], laidByText := true, laidKinds := [.data, .data, .data, .data, .pinned], laidTests := true, laidLooks := .later }
def RequestBackUptoCardSaid : Prop := Claim7.holds Tryz.pinned (.plain (OpenSpec.upto requestBackSpec)) requestBackUptoCard
end Rows
end Go.Proofs.YtmibhbdfigpkmaaGreatDoor
