/-
  DERIVED. GIVEN WITH THE SEED: THE CARDS: each row of YtjapkdcomcgamaaGreatDoorRows.lean that lists a variable, with what it lists TIED to the program's text (the seventh form; the later family's looks); each row that meets fmt, with fmt's text TOLD by the authors' own Lean function (tested against real Go, not proved from fmt's source: count such statements apart). THE CARD IS WHAT COUNTS. Prove the row's statement (the work); the ties are given (YtjapkdcomcgamaaGreatDoorTie.lean); close each card by the builder's one call (the guide's Derived/Test/ToyasCard.lean, 'card_holds'). Laid BY PROGRAM, IN A SANDBOX (cutbox-door.mjs). By AI agents, Wed Nov 11 2026. No macro, syntax, notation, axiom, sorry.
-/
import Derived.Test.YtjapkdcomcgamaaGreatDoorRows
import GoSem.ClaimSeven
namespace Go.Proofs.YtjapkdcomcgamaaGreatDoor
namespace Rows

/-- THE TIED CARD OF 'lighteragelaw.StoreDoes'. -/
def storeDoesCard : Claim7 := { stood := { row := storeDoesRow, standIns := [], harness := (true, "d6f17a1a23f9f231cf87cacadcd2b719228494c52f3aafaaea3efd1d9c112b1c"), looks := true }, kinds := [], alts := [], laidByText := true, laidKinds := [.data, .pinned], laidTests := true, laidLooks := .later }
def StoreDoesCardSaid : Prop := Claim7.holds Tryz.pinned (.plain (OpenSpec.ofChange storeDoesSpec)) storeDoesCard

/-- THE TIED CARD OF 'lighteragelaw.ParamsDoes'. -/
def paramsDoesCard : Claim7 := { stood := { row := paramsDoesRow, standIns := [], harness := (true, "d6f17a1a23f9f231cf87cacadcd2b719228494c52f3aafaaea3efd1d9c112b1c"), looks := true }, kinds := [], alts := [], laidByText := true, laidKinds := [.data, .pinned], laidTests := true, laidLooks := .later }
def ParamsDoesCardSaid : Prop := Claim7.holds Tryz.pinned (.plain (OpenSpec.ofChange paramsDoesSpec)) paramsDoesCard

/-- THE TIED CARD OF 'lighteragelaw.ParamsBack'. -/
def paramsBackCard : Claim7 := { stood := { row := paramsBackRow, standIns := [], harness := (true, "d6f17a1a23f9f231cf87cacadcd2b719228494c52f3aafaaea3efd1d9c112b1c"), looks := true }, kinds := [], alts := [], laidByText := true, laidKinds := [.data, .pinned], laidTests := true, laidLooks := .later }
def ParamsBackCardSaid : Prop := Claim7.holds Tryz.pinned (.plain (OpenSpec.ofChange paramsBackSpec)) paramsBackCard

/-- THE SECOND FORM's CARD OF 'lighteragelaw.StoreDoes'. -/
def storeDoesUptoCard : Claim7 := { stood := { row := storeDoesUptoRow, standIns := [], harness := (true, "d6f17a1a23f9f231cf87cacadcd2b719228494c52f3aafaaea3efd1d9c112b1c"), looks := true }, kinds := [], alts := [], laidByText := true, laidKinds := [.data, .pinned], laidTests := true, laidLooks := .later }
def StoreDoesUptoCardSaid : Prop := Claim7.holds Tryz.pinned (.plain (OpenSpec.upto storeDoesSpec)) storeDoesUptoCard

/-- THE SECOND FORM's CARD OF 'lighteragelaw.ParamsDoes'. -/
def paramsDoesUptoCard : Claim7 := { stood := { row := paramsDoesUptoRow, standIns := [], harness := (true, "d6f17a1a23f9f231cf87cacadcd2b719228494c52f3aafaaea3efd1d9c112b1c"), looks := true }, kinds := [], alts := [], laidByText := true, laidKinds := [.data, .pinned], laidTests := true, laidLooks := .later }
def ParamsDoesUptoCardSaid : Prop := Claim7.holds Tryz.pinned (.plain (OpenSpec.upto paramsDoesSpec)) paramsDoesUptoCard

/-- THE SECOND FORM's CARD OF 'lighteragelaw.ParamsBack'. -/
def paramsBackUptoCard : Claim7 := { stood := { row := paramsBackUptoRow, standIns := [], harness := (true, "d6f17a1a23f9f231cf87cacadcd2b719228494c52f3aafaaea3efd1d9c112b1c"), looks := true }, kinds := [], alts := [], laidByText := true, laidKinds := [.data, .pinned], laidTests := true, laidLooks := .later }
def ParamsBackUptoCardSaid : Prop := Claim7.holds Tryz.pinned (.plain (OpenSpec.upto paramsBackSpec)) paramsBackUptoCard
end Rows
end Go.Proofs.YtjapkdcomcgamaaGreatDoor
