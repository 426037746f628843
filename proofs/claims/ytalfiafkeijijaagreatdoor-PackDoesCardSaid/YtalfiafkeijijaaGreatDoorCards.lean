/-
  DERIVED. GIVEN WITH THE SEED: THE CARDS: each row of YtalfiafkeijijaaGreatDoorRows.lean that lists a variable, with what it lists TIED to the program's text (the seventh form; the later family's looks); each row that meets fmt, with fmt's text TOLD by the authors' own Lean function (tested against real Go, not proved from fmt's source: count such statements apart). THE CARD IS WHAT COUNTS. Prove the row's statement (the work); the ties are given (YtalfiafkeijijaaGreatDoorTie.lean); close each card by the builder's one call (the guide's Derived/Test/ToyasCard.lean, 'card_holds'). Laid BY PROGRAM, IN A SANDBOX (cutbox-door.mjs). By AI agents, Wed Nov 11 2026. No macro, syntax, notation, axiom, sorry.
-/
import Derived.Test.YtalfiafkeijijaaGreatDoorRows
import GoSem.ClaimSeven
namespace Go.Proofs.YtalfiafkeijijaaGreatDoor
namespace Rows

/-- THE TIED CARD OF 'lighteragelaw.PackDoes'. -/
def packDoesCard : Claim7 := { stood := { row := packDoesRow, standIns := [], harness := (true, "ea56cb432795f11a322ababca179be2206badbf6f03e6b677e63b3234300a8ff"), looks := true }, kinds := [], alts := [], laidByText := true, laidKinds := [.data, .pinned], laidTests := true, laidLooks := .later }
def PackDoesCardSaid : Prop := Claim7.holds Tryz.pinned (.plain (OpenSpec.ofChange packDoesSpec)) packDoesCard

/-- THE SECOND FORM's CARD OF 'lighteragelaw.PackDoes'. -/
def packDoesUptoCard : Claim7 := { stood := { row := packDoesUptoRow, standIns := [], harness := (true, "ea56cb432795f11a322ababca179be2206badbf6f03e6b677e63b3234300a8ff"), looks := true }, kinds := [], alts := [], laidByText := true, laidKinds := [.data, .pinned], laidTests := true, laidLooks := .later }
def PackDoesUptoCardSaid : Prop := Claim7.holds Tryz.pinned (.plain (OpenSpec.upto packDoesSpec)) packDoesUptoCard
end Rows
end Go.Proofs.YtalfiafkeijijaaGreatDoor
