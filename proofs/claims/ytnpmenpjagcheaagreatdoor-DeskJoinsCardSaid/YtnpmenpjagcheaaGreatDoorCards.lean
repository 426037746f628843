/-
  DERIVED. GIVEN WITH THE SEED: THE CARDS: each row of YtnpmenpjagcheaaGreatDoorRows.lean that lists a variable, with what it lists TIED to the program's text (the seventh form; the later family's looks); each row that meets fmt, with fmt's text TOLD by the authors' own Lean function (tested against real Go, not proved from fmt's source: count such statements apart). THE CARD IS WHAT COUNTS. Prove the row's statement (the work); the ties are given (YtnpmenpjagcheaaGreatDoorTie.lean); close each card by the builder's one call (the guide's Derived/Test/ToyasCard.lean, 'card_holds'). Laid BY PROGRAM, IN A SANDBOX (cutbox-door.mjs). By AI agents, Wed Nov 11 2026. No macro, syntax, notation, axiom, sorry.
-/
import Derived.Test.YtnpmenpjagcheaaGreatDoorRows
import GoSem.ClaimSeven
namespace Go.Proofs.YtnpmenpjagcheaaGreatDoor
namespace Rows

/-- THE TIED CARD OF 'lighteragelaw.DeskJoins'. -/
def deskJoinsCard : Claim7 := { stood := { row := deskJoinsRow, standIns := [], harness := (true, "27709660e6b4c3830911efc0f588dd674eed3ff5085d589716df5395fae71412"), looks := true }, kinds := [], alts := [], laidByText := true, laidKinds := [.data, .data, .data, .data, .pinned], laidTests := true, laidLooks := .later }
def DeskJoinsCardSaid : Prop := Claim7.holds Tryz.pinned (.plain (OpenSpec.ofChange deskJoinsSpec)) deskJoinsCard

/-- THE TIED CARD OF 'lighteragelaw.DeskShows'. -/
def deskShowsCard : Claim7 := { stood := { row := deskShowsRow, standIns := [], harness := (true, "27709660e6b4c3830911efc0f588dd674eed3ff5085d589716df5395fae71412"), looks := true }, kinds := [], alts := [], laidByText := true, laidKinds := [.data, .data, .data, .data, .pinned], laidTests := true, laidLooks := .later }
def DeskShowsCardSaid : Prop := Claim7.holds Tryz.pinned (.plain (OpenSpec.ofChange deskShowsSpec)) deskShowsCard

/-- THE SECOND FORM's CARD OF 'lighteragelaw.DeskJoins'. -/
def deskJoinsUptoCard : Claim7 := { stood := { row := deskJoinsUptoRow, standIns := [], harness := (true, "27709660e6b4c3830911efc0f588dd674eed3ff5085d589716df5395fae71412"), looks := true }, kinds := [], alts := [], laidByText := true, laidKinds := [.data, .data, .data, .data, .pinned], laidTests := true, laidLooks := .later }
def DeskJoinsUptoCardSaid : Prop := Claim7.holds Tryz.pinned (.plain (OpenSpec.upto deskJoinsSpec)) deskJoinsUptoCard

/-- THE SECOND FORM's CARD OF 'lighteragelaw.DeskShows'. -/
def deskShowsUptoCard : Claim7 := { stood := { row := deskShowsUptoRow, standIns := [], harness := (true, "27709660e6b4c3830911efc0f588dd674eed3ff5085d589716df5395fae71412"), looks := true }, kinds := [], alts := [], laidByText := true, laidKinds := [.data, .data, .data, .data, .pinned], laidTests := true, laidLooks := .later }
def DeskShowsUptoCardSaid : Prop := Claim7.holds Tryz.pinned (.plain (OpenSpec.upto deskShowsSpec)) deskShowsUptoCard
end Rows
end Go.Proofs.YtnpmenpjagcheaaGreatDoor
