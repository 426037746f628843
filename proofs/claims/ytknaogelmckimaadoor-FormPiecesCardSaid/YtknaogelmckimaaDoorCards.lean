/-
  DERIVED. GIVEN WITH THE SEED: THE CARDS: each row of YtknaogelmckimaaDoorRows.lean that lists a variable, with what it lists TIED to the program's text (the seventh form; the later family's looks); each row that meets fmt, with fmt's text TOLD by the authors' own Lean function (tested against real Go, not proved from fmt's source: count such statements apart). THE CARD IS WHAT COUNTS. Prove the row's statement (the work); the ties are given (YtknaogelmckimaaDoorTie.lean); close each card by the builder's one call (the guide's Derived/Test/ToyasCard.lean, 'card_holds'). Laid BY PROGRAM, IN A SANDBOX (cutbox-door.mjs). By AI agents, Wed Nov 11 2026. No macro, syntax, notation, axiom, sorry.
-/
import Derived.Test.YtknaogelmckimaaDoorRows
import GoSem.ClaimSeven
namespace Go.Proofs.YtknaogelmckimaaDoor
namespace Rows

/-- THE TIED CARD OF 'lighteragelaw.FormPieces'. -/
def formPiecesCard : Claim7 := { stood := { row := formPiecesRow, standIns := [], harness := (true, "08c853b0c07f23e6b799750e8324127efdde20122ecdad651a39a16a0fc6c2f0"), looks := true }, kinds := [], alts := [], laidByText := true, laidKinds := [.data, .pinned], laidTests := true, laidLooks := .later }
def FormPiecesCardSaid : Prop := Claim7.holds Tryd.pinned (.plain (OpenSpec.ofChange formPiecesSpec)) formPiecesCard

/-- THE TIED CARD OF 'lighteragelaw.FormParts'. -/
def formPartsCard : Claim7 := { stood := { row := formPartsRow, standIns := [], harness := (true, "08c853b0c07f23e6b799750e8324127efdde20122ecdad651a39a16a0fc6c2f0"), looks := true }, kinds := [], alts := [], laidByText := true, laidKinds := [.data, .pinned], laidTests := true, laidLooks := .later }
def FormPartsCardSaid : Prop := Claim7.holds Tryd.pinned (.plain (OpenSpec.ofChange formPartsSpec)) formPartsCard

/-- THE TIED CARD OF 'lighteragelaw.FormSafe'. -/
def formSafeCard : Claim7 := { stood := { row := formSafeRow, standIns := [], harness := (true, "08c853b0c07f23e6b799750e8324127efdde20122ecdad651a39a16a0fc6c2f0"), looks := true }, kinds := [], alts := [], laidByText := true, laidKinds := [.data, .pinned], laidTests := true, laidLooks := .later }
def FormSafeCardSaid : Prop := Claim7.holds Tryd.pinned (.plain (OpenSpec.ofChange formSafeSpec)) formSafeCard

/-- THE SECOND FORM's CARD OF 'lighteragelaw.FormPieces'. -/
def formPiecesUptoCard : Claim7 := { stood := { row := formPiecesUptoRow, standIns := [], harness := (true, "08c853b0c07f23e6b799750e8324127efdde20122ecdad651a39a16a0fc6c2f0"), looks := true }, kinds := [], alts := [], laidByText := true, laidKinds := [.data, .pinned], laidTests := true, laidLooks := .later }
def FormPiecesUptoCardSaid : Prop := Claim7.holds Tryd.pinned (.plain (OpenSpec.upto formPiecesSpec)) formPiecesUptoCard

/-- THE SECOND FORM's CARD OF 'lighteragelaw.FormParts'. -/
def formPartsUptoCard : Claim7 := { stood := { row := formPartsUptoRow, standIns := [], harness := (true, "08c853b0c07f23e6b799750e8324127efdde20122ecdad651a39a16a0fc6c2f0"), looks := true }, kinds := [], alts := [], laidByText := true, laidKinds := [.data, .pinned], laidTests := true, laidLooks := .later }
def FormPartsUptoCardSaid : Prop := Claim7.holds Tryd.pinned (.plain (OpenSpec.upto formPartsSpec)) formPartsUptoCard

/-- THE SECOND FORM's CARD OF 'lighteragelaw.FormSafe'. -/
def formSafeUptoCard : Claim7 := { stood := { row := formSafeUptoRow, standIns := [], harness := (true, "08c853b0c07f23e6b799750e8324127efdde20122ecdad651a39a16a0fc6c2f0"), looks := true }, kinds := [], alts := [], laidByText := true, laidKinds := [.data, .pinned], laidTests := true, laidLooks := .later }
def FormSafeUptoCardSaid : Prop := Claim7.holds Tryd.pinned (.plain (OpenSpec.upto formSafeSpec)) formSafeUptoCard
end Rows
end Go.Proofs.YtknaogelmckimaaDoor
