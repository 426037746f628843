/-
  DERIVED. GIVEN WITH THE SEED: THE CARDS: each row of YtmibhbdfigpkmaaDoorRows.lean that lists a variable, with what it lists TIED to the program's text (the seventh form; the later family's looks); each row that meets fmt, with fmt's text TOLD by the authors' own Lean function (tested against real Go, not proved from fmt's source: count such statements apart). THE CARD IS WHAT COUNTS. Prove the row's statement (the work); the ties are given (YtmibhbdfigpkmaaDoorTie.lean); close each card by the builder's one call (the guide's Derived/Test/ToyasCard.lean, 'card_holds'). Laid BY PROGRAM, IN A SANDBOX (cutbox-door.mjs). By AI agents, Wed Nov 11 2026. No macro, syntax, notation, axiom, sorry.
-/
import Derived.Test.YtmibhbdfigpkmaaDoorRows
import GoSem.ClaimSeven
namespace Go.Proofs.YtmibhbdfigpkmaaDoor
namespace Rows

/-- THE TIED CARD OF 'lighteragelaw.RequestLength'. -/
def requestLengthCard : Claim7 := { stood := { row := requestLengthRow, standIns := [], harness := (true, "08cbfae026219079403ef04556098bda2f955cbf1ac000f9794869897f4e3bbd"), looks := false }, kinds := [], alts := [], laidByText := true, laidKinds := [.data, .data, .data, .data, .pinned], laidTests := true, laidLooks := .later }
def RequestLengthCardSaid : Prop := Claim7.holds Tryd.pinned (.plain (OpenSpec.ofChange requestLengthSpec)) requestLengthCard

/-- THE SECOND FORM's CARD OF 'lighteragelaw.RequestLength'. -/
def requestLengthUptoCard : Claim7 := { stood := { row := requestLengthUptoRow, standIns := [], harness := (true, "08cbfae026219079403ef04556098bda2f955cbf1ac000f9794869897f4e3bbd"), looks := false }, kinds := [], alts := [], laidByText := true, laidKinds := [.data, .data, .data, .data, .pinned], laidTests := true, laidLooks := .later }
def RequestLengthUptoCardSaid : Prop := Claim7.holds Tryd.pinned (.plain (OpenSpec.upto requestLengthSpec)) requestLengthUptoCard
end Rows
end Go.Proofs.YtmibhbdfigpkmaaDoor
