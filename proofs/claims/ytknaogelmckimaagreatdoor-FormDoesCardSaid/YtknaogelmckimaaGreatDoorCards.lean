/-
  DERIVED. GIVEN WITH THE SEED: THE CARDS: each row of YtknaogelmckimaaGreatDoorRows.lean that lists a variable, with what it lists TIED to the program's text (the seventh form; the later family's looks); each row that meets fmt, with fmt's text TOLD by the authors' own Lean function (tested against real Go, not proved from fmt's source: count such statements apart). THE CARD IS WHAT COUNTS. Prove the row's statement (the work); the ties are given (YtknaogelmckimaaGreatDoorTie.lean); close each card by the builder's one call (the guide's Derived/Test/ToyasCard.lean, 'card_holds'). Laid BY PROGRAM, IN A SANDBOX (cutbox-door.mjs). By AI agents, Wed Nov 11 2026. No macro, syntax, notation, axiom, sorry.
-/
import Derived.Test.YtknaogelmckimaaGreatDoorRows
import GoSem.ClaimSeven
namespace Go.Proofs.YtknaogelmckimaaGreatDoor
namespace Rows

/-- THE TIED CARD OF 'lighteragelaw.FormDoes'. -/
def formDoesCard : Claim7 := { stood := { row := formDoesRow, standIns := [], harness := (true, "16737271837bb3e1dd42a29633d263d26130439fbe76748c6dcc34ae9b839f8e"), looks := true }, kinds := [], alts := [], laidByText := true, laidKinds := [.data, .pinned], laidTests := true, laidLooks := .later }
def FormDoesCardSaid : Prop := Claim7.holds Tryz.pinned (.plain (OpenSpec.ofChange formDoesSpec)) formDoesCard

/-- THE TIED CARD OF 'lighteragelaw.PackDoes'. -/
def packDoesCard : Claim7 := { stood := { row := packDoesRow, standIns := [], harness := (true, "16737271837bb3e1dd42a29633d263d26130439fbe76748c6dcc34ae9b839f8e"), looks := true }, kinds := [], alts := [], laidByText := true, laidKinds := [.data, .pinned], laidTests := true, laidLooks := .later }
def PackDoesCardSaid : Prop := Claim7.holds Tryz.pinned (.plain (OpenSpec.ofChange packDoesSpec)) packDoesCard

/-- THE TIED CARD OF 'lighteragelaw.PackBack'. -/
def packBackCard : Claim7 := { stood := { row := packBackRow, standIns := [], harness := (true, "16737271837bb3e1dd42a29633d263d26130439fbe76748c6dcc34ae9b839f8e"), looks := true }, kinds := [], alts := [], laidByText := true, laidKinds := [.data, .pinned], laidTests := true, laidLooks := .later }
def PackBackCardSaid : Prop := Claim7.holds Tryz.pinned (.plain (OpenSpec.ofChange packBackSpec)) packBackCard

/-- THE SECOND FORM's CARD OF 'lighteragelaw.FormDoes'. -/
def formDoesUptoCard : Claim7 := { stood := { row := formDoesUptoRow, standIns := [], harness := (true, "16737271837bb3e1dd42a29633d263d26130439fbe76748c6dcc34ae9b839f8e"), looks := true }, kinds := [], alts := [], laidByText := true, laidKinds := [.data, .pinned], laidTests := true, laidLooks := .later }
def FormDoesUptoCardSaid : Prop := Claim7.holds Tryz.pinned (.plain (OpenSpec.upto formDoesSpec)) formDoesUptoCard

/-- THE SECOND FORM's CARD OF 'lighteragelaw.PackDoes'. -/
def packDoesUptoCard : Claim7 := { stood := { row := packDoesUptoRow, standIns := [], harness := (true, "16737271837bb3e1dd42a29633d263d26130439fbe76748c6dcc34ae9b839f8e"), looks := true }, kinds := [], alts := [], laidByText := true, laidKinds := [.data, .pinned], laidTests := true, laidLooks := .later }
def PackDoesUptoCardSaid : Prop := Claim7.holds Tryz.pinned (.plain (OpenSpec.upto packDoesSpec)) packDoesUptoCard

/-- THE SECOND FORM's CARD OF 'lighteragelaw.PackBack'. -/
def packBackUptoCard : Claim7 := { stood := { row := packBackUptoRow, standIns := [], harness := (true, "16737271837bb3e1dd42a29633d263d26130439fbe76748c6dcc34ae9b839f8e"), looks := true }, kinds := [], alts := [], laidByText := true, laidKinds := [.data, .pinned], laidTests := true, laidLooks := .later }
def PackBackUptoCardSaid : Prop := Claim7.holds Tryz.pinned (.plain (OpenSpec.upto packBackSpec)) packBackUptoCard
end Rows
end Go.Proofs.YtknaogelmckimaaGreatDoor
