/-
  DERIVED. GIVEN WITH THE SEED: THE CARDS: each row of YtjapkdcomcgamaaDoorRows.lean that lists a variable, with what it lists TIED to the program's text (the seventh form; the later family's looks); each row that meets fmt, with fmt's text TOLD by the authors' own Lean function (tested against real Go, not proved from fmt's source: count such statements apart). THE CARD IS WHAT COUNTS. Prove the row's statement (the work); the ties are given (YtjapkdcomcgamaaDoorTie.lean); close each card by the builder's one call (the guide's Derived/Test/ToyasCard.lean, 'card_holds'). Laid BY PROGRAM, IN A SANDBOX (cutbox-door.mjs). By AI agents, Wed Nov 11 2026. No macro, syntax, notation, axiom, sorry.
-/
import Derived.Test.YtjapkdcomcgamaaDoorRows
import GoSem.ClaimSeven
namespace Go.Proofs.YtjapkdcomcgamaaDoor
namespace Rows

/-- THE TIED CARD OF 'lighteragelaw.SpoolBounds'. -/
def spoolBoundsCard : Claim7 := { stood := { row := spoolBoundsRow, standIns := [], harness := (true, "fe3afa9a4c1e15ce83c4e4110d2e9d1cc0869d058e8c2130a40c1843116f67cb"), looks := false }, kinds := [], alts := [], laidByText := true, laidKinds := [.data, .pinned], laidTests := true, laidLooks := .later }
def SpoolBoundsCardSaid : Prop := Claim7.holds Tryd.pinned (.plain (OpenSpec.ofChange spoolBoundsSpec)) spoolBoundsCard

/-- THE TIED CARD OF 'lighteragelaw.SpoolDoes'. -/
def spoolDoesCard : Claim7 := { stood := { row := spoolDoesRow, standIns := [], harness := (true, "fe3afa9a4c1e15ce83c4e4110d2e9d1cc0869d058e8c2130a40c1843116f67cb"), looks := false }, kinds := [], alts := [], laidByText := true, laidKinds := [.data, .pinned], laidTests := true, laidLooks := .later }
def SpoolDoesCardSaid : Prop := Claim7.holds Tryd.pinned (.plain (OpenSpec.ofChange spoolDoesSpec)) spoolDoesCard

/-- THE TIED CARD OF 'lighteragelaw.ReplyDoes'. -/
def replyDoesCard : Claim7 := { stood := { row := replyDoesRow, standIns := [], harness := (true, "fe3afa9a4c1e15ce83c4e4110d2e9d1cc0869d058e8c2130a40c1843116f67cb"), looks := false }, kinds := [], alts := [], laidByText := true, laidKinds := [.data, .data, .data, .data, .pinned], laidTests := true, laidLooks := .later }
def ReplyDoesCardSaid : Prop := Claim7.holds Tryd.pinned (.plain (OpenSpec.ofChange replyDoesSpec)) replyDoesCard

/-- THE TIED CARD OF 'lighteragelaw.ReplyLines'. -/
def replyLinesCard : Claim7 := { stood := { row := replyLinesRow, standIns := [], harness := (true, "fe3afa9a4c1e15ce83c4e4110d2e9d1cc0869d058e8c2130a40c1843116f67cb"), looks := false }, kinds := [], alts := [], laidByText := true, laidKinds := [.data, .data, .data, .data, .pinned], laidTests := true, laidLooks := .later }
def ReplyLinesCardSaid : Prop := Claim7.holds Tryd.pinned (.plain (OpenSpec.ofChange replyLinesSpec)) replyLinesCard

/-- THE TIED CARD OF 'lighteragelaw.StoreSure'. -/
def storeSureCard : Claim7 := { stood := { row := storeSureRow, standIns := [], harness := (true, "fe3afa9a4c1e15ce83c4e4110d2e9d1cc0869d058e8c2130a40c1843116f67cb"), looks := false }, kinds := [], alts := [], laidByText := true, laidKinds := [.data, .pinned], laidTests := true, laidLooks := .later }
def StoreSureCardSaid : Prop := Claim7.holds Tryd.pinned (.plain (OpenSpec.ofChange storeSureSpec)) storeSureCard

/-- THE TIED CARD OF 'lighteragelaw.StoreAgain'. -/
def storeAgainCard : Claim7 := { stood := { row := storeAgainRow, standIns := [], harness := (true, "fe3afa9a4c1e15ce83c4e4110d2e9d1cc0869d058e8c2130a40c1843116f67cb"), looks := false }, kinds := [], alts := [], laidByText := true, laidKinds := [.data, .pinned], laidTests := true, laidLooks := .later }
def StoreAgainCardSaid : Prop := Claim7.holds Tryd.pinned (.plain (OpenSpec.ofChange storeAgainSpec)) storeAgainCard

/-- THE TIED CARD OF 'lighteragelaw.ChunksDoes'. -/
def chunksDoesCard : Claim7 := { stood := { row := chunksDoesRow, standIns := [], harness := (true, "fe3afa9a4c1e15ce83c4e4110d2e9d1cc0869d058e8c2130a40c1843116f67cb"), looks := false }, kinds := [], alts := [], laidByText := true, laidKinds := [.data, .data, .data, .data, .pinned], laidTests := true, laidLooks := .later }
def ChunksDoesCardSaid : Prop := Claim7.holds Tryd.pinned (.plain (OpenSpec.ofChange chunksDoesSpec)) chunksDoesCard

/-- THE TIED CARD OF 'lighteragelaw.ChunksBack'. -/
def chunksBackCard : Claim7 := { stood := { row := chunksBackRow, standIns := [], harness := (true, "fe3afa9a4c1e15ce83c4e4110d2e9d1cc0869d058e8c2130a40c1843116f67cb"), looks := false }, kinds := [], alts := [], laidByText := true, laidKinds := [.data, .data, .data, .data, .pinned], laidTests := true, laidLooks := .later }
def ChunksBackCardSaid : Prop := Claim7.holds Tryd.pinned (.plain (OpenSpec.ofChange chunksBackSpec)) chunksBackCard

/-- THE SECOND FORM's CARD OF 'lighteragelaw.SpoolBounds'. -/
def spoolBoundsUptoCard : Claim7 := { stood := { row := spoolBoundsUptoRow, standIns := [], harness := (true, "fe3afa9a4c1e15ce83c4e4110d2e9d1cc0869d058e8c2130a40c1843116f67cb"), looks := false }, kinds := [], alts := [], laidByText := true, laidKinds := [.data, .pinned], laidTests := true, laidLooks := .later }
def SpoolBoundsUptoCardSaid : Prop := Claim7.holds Tryd.pinned (.plain (OpenSpec.upto spoolBoundsSpec)) spoolBoundsUptoCard

/-- THE SECOND FORM's CARD OF 'lighteragelaw.SpoolDoes'. -/
def spoolDoesUptoCard : Claim7 := { stood := { row := spoolDoesUptoRow, standIns := [], harness := (true, "fe3afa9a4c1e15ce83c4e4110d2e9d1cc0869d058e8c2130a40c1843116f67cb"), looks := false }, kinds := [], alts := [], laidByText := true, laidKinds := [.data, .pinned], laidTests := true, laidLooks := .later }
def SpoolDoesUptoCardSaid : Prop := Claim7.holds Tryd.pinned (.plain (OpenSpec.upto spoolDoesSpec)) spoolDoesUptoCard

/-- THE SECOND FORM's CARD OF 'lighteragelaw.ReplyDoes'. -/
def replyDoesUptoCard : Claim7 := { stood := { row := replyDoesUptoRow, standIns := [], harness := (true, "fe3afa9a4c1e15ce83c4e4110d2e9d1cc0869d058e8c2130a40c1843116f67cb"), looks := false }, kinds := [], alts := [], laidByText := true, laidKinds := [.data, .data, .data, .data, .pinned], laidTests := true, laidLooks := .later }
def ReplyDoesUptoCardSaid : Prop := Claim7.holds Tryd.pinned (.plain (OpenSpec.upto replyDoesSpec)) replyDoesUptoCard

/-- THE SECOND FORM's CARD OF 'lighteragelaw.ReplyLines'. -/
def replyLinesUptoCard : Claim7 := { stood := { row := replyLinesUptoRow, standIns := [], harness := (true, "fe3afa9a4c1e15ce83c4e4110d2e9d1cc0869d058e8c2130a40c1843116f67cb"), looks := false }, kinds := [], alts := [], laidByText := true, laidKinds := [.data, .data, .data, .data, .pinned], laidTests := true, laidLooks := .later }
def ReplyLinesUptoCardSaid : Prop := Claim7.holds Tryd.pinned (.plain (OpenSpec.upto replyLinesSpec)) replyLinesUptoCard

/-- THE SECOND FORM's CARD OF 'lighteragelaw.StoreSure'. -/
def storeSureUptoCard : Claim7 := { stood := { row := storeSureUptoRow, standIns := [], harness := (true, "fe3afa9a4c1e15ce83c4e4110d2e9d1cc0869d058e8c2130a40c1843116f67cb"), looks := false }, kinds := [], alts := [], laidByText := true, laidKinds := [.data, .pinned], laidTests := true, laidLooks := .later }
def StoreSureUptoCardSaid : Prop := Claim7.holds Tryd.pinned (.plain (OpenSpec.upto storeSureSpec)) storeSureUptoCard

/-- THE SECOND FORM's CARD OF 'lighteragelaw.StoreAgain'. -/
def storeAgainUptoCard : Claim7 := { stood := { row := storeAgainUptoRow, standIns := [], harness := (true, "fe3afa9a4c1e15ce83c4e4110d2e9d1cc0869d058e8c2130a40c1843116f67cb"), looks := false }, kinds := [], alts := [], laidByText := true, laidKinds := [.data, .pinned], laidTests := true, laidLooks := .later }
def StoreAgainUptoCardSaid : Prop := Claim7.holds Tryd.pinned (.plain (OpenSpec.upto storeAgainSpec)) storeAgainUptoCard

/-- THE SECOND FORM's CARD OF 'lighteragelaw.ChunksDoes'. -/
def chunksDoesUptoCard : Claim7 := { stood := { row := chunksDoesUptoRow, standIns := [], harness := (true, "fe3afa9a4c1e15ce83c4e4110d2e9d1cc0869d058e8c2130a40c1843116f67cb"), looks := false }, kinds := [], alts := [], laidByText := true, laidKinds := [.data, .data, .data, .data, .pinned], laidTests := true, laidLooks := .later }
def ChunksDoesUptoCardSaid : Prop := Claim7.holds Tryd.pinned (.plain (OpenSpec.upto chunksDoesSpec)) chunksDoesUptoCard

/-- THE SECOND FORM's CARD OF 'lighteragelaw.ChunksBack'. -/
def chunksBackUptoCard : Claim7 := { stood := { row := chunksBackUptoRow, standIns := [], harness := (true, "fe3afa9a4c1e15ce83c4e4110d2e9d1cc0869d058e8c2130a40c1843116f67cb"), looks := false }, kinds := [], alts := [], laidByText := true, laidKinds := [.data, .data, .data, .data, .pinned], laidTests := true, laidLooks := .later }
def ChunksBackUptoCardSaid : Prop := Claim7.holds Tryd.pinned (.plain (OpenSpec.upto chunksBackSpec)) chunksBackUptoCard
end Rows
end Go.Proofs.YtjapkdcomcgamaaDoor
