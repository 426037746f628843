/-
  DERIVED. GIVEN WITH THE SEED: THE CARDS: each row of YtlpmdnffdmdahaaGreatDoorRows.lean that lists a variable, with what it lists TIED to the program's text (the seventh form; the later family's looks); each row that meets fmt, with fmt's text TOLD by the authors' own Lean function (tested against real Go, not proved from fmt's source: count such statements apart). THE CARD IS WHAT COUNTS. Prove the row's statement (the work); the ties are given (YtlpmdnffdmdahaaGreatDoorTie.lean); close each card by the builder's one call (the guide's Derived/Test/ToyasCard.lean, 'card_holds'). Laid BY PROGRAM, IN A SANDBOX (cutbox-door.mjs). By AI agents, Wed Nov 11 2026. No macro, syntax, notation, axiom, sorry.
-/
import Derived.Test.YtlpmdnffdmdahaaGreatDoorRows
import GoSem.ClaimSeven
namespace Go.Proofs.YtlpmdnffdmdahaaGreatDoor
namespace Rows

/-- THE TIED CARD OF 'lighteragelaw.ParamsDoes'. -/
def paramsDoesCard : Claim7 := { stood := { row := paramsDoesRow, standIns := [], harness := (true, "27450e23e406df071e56774216b0c71dafa08e35756fc418b25d433d96573b49"), looks := true }, kinds := [], alts := [], laidByText := true, laidKinds := [.data, .pinned], laidTests := true, laidLooks := .later }
def ParamsDoesCardSaid : Prop := Claim7.holds Tryz.pinned (.plain (OpenSpec.ofChange paramsDoesSpec)) paramsDoesCard

/-- THE TIED CARD OF 'lighteragelaw.ParamsBack'. -/
def paramsBackCard : Claim7 := { stood := { row := paramsBackRow, standIns := [], harness := (true, "27450e23e406df071e56774216b0c71dafa08e35756fc418b25d433d96573b49"), looks := true }, kinds := [], alts := [], laidByText := true, laidKinds := [.data, .pinned], laidTests := true, laidLooks := .later }
def ParamsBackCardSaid : Prop := Claim7.holds Tryz.pinned (.plain (OpenSpec.ofChange paramsBackSpec)) paramsBackCard

/-- THE SECOND FORM's CARD OF 'lighteragelaw.ParamsDoes'. -/
def paramsDoesUptoCard : Claim7 := { stood := { row := paramsDoesUptoRow, standIns := [], harness := (true, "27450e23e406df071e56774216b0c71dafa08e35756fc418b25d433d96573b49"), looks := true }, kinds := [], alts := [], laidByText := true, laidKinds := [.data, .pinned], laidTests := true, laidLooks := .later }
def ParamsDoesUptoCardSaid : Prop := Claim7.holds Tryz.pinned (.plain (OpenSpec.upto paramsDoesSpec)) paramsDoesUptoCard

/-- THE SECOND FORM's CARD OF 'lighteragelaw.ParamsBack'. -/
def paramsBackUptoCard : Claim7 := { stood := { row := paramsBackUptoRow, standIns := [], harness := (true, "27450e23e406df071e56774216b0c71dafa08e35756fc418b25d433d96573b49"), looks := true }, kinds := [], alts := [], laidByText := true, laidKinds := [.data, .pinned], laidTests := true, laidLooks := .later }
def ParamsBackUptoCardSaid : Prop := Claim7.holds Tryz.pinned (.plain (OpenSpec.upto paramsBackSpec)) paramsBackUptoCard
end Rows
end Go.Proofs.YtlpmdnffdmdahaaGreatDoor
