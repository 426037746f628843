/-
  DERIVED. GIVEN WITH THE SEED: THE CARDS: each row of YtmmfcghieefoaaaDoorRows.lean that lists a variable, with what it lists TIED to the program's text (the seventh form; the later family's looks); each row that meets fmt, with fmt's text TOLD by the authors' own Lean function (tested against real Go, not proved from fmt's source: count such statements apart). THE CARD IS WHAT COUNTS. Prove the row's statement (the work); the ties are given (YtmmfcghieefoaaaDoorTie.lean); close each card by the builder's one call (the guide's Derived/Test/ToyasCard.lean, 'card_holds'). Laid BY PROGRAM, IN A SANDBOX (cutbox-door.mjs). By AI agents, Wed Nov 11 2026. No macro, syntax, notation, axiom, sorry.
-/
import Derived.Test.YtmmfcghieefoaaaDoorRows
import GoSem.ClaimSeven
namespace Go.Proofs.YtmmfcghieefoaaaDoor
namespace Rows

/-- THE TIED CARD OF 'lighteragelaw.CharsBack'. -/
def charsBackCard : Claim7 := { stood := { row := charsBackRow, standIns := [], harness := (true, "2ccca15a6d4073031f635fda9fa7fd7aafdd6c251d9a23ebd2d1926802f89f58"), looks := false }, kinds := [], alts := [], laidByText := true, laidKinds := [.data, .pinned], laidTests := true, laidLooks := .later }
def CharsBackCardSaid : Prop := Claim7.holds Tryd.pinned (.plain (OpenSpec.ofChange charsBackSpec)) charsBackCard

/-- THE TIED CARD OF 'lighteragelaw.CharsDoes'. -/
def charsDoesCard : Claim7 := { stood := { row := charsDoesRow, standIns := [], harness := (true, "2ccca15a6d4073031f635fda9fa7fd7aafdd6c251d9a23ebd2d1926802f89f58"), looks := false }, kinds := [], alts := [], laidByText := true, laidKinds := [.data, .pinned], laidTests := true, laidLooks := .later }
def CharsDoesCardSaid : Prop := Claim7.holds Tryd.pinned (.plain (OpenSpec.ofChange charsDoesSpec)) charsDoesCard

/-- THE TIED CARD OF 'lighteragelaw.FieldsBack'. -/
def fieldsBackCard : Claim7 := { stood := { row := fieldsBackRow, standIns := [], harness := (true, "2ccca15a6d4073031f635fda9fa7fd7aafdd6c251d9a23ebd2d1926802f89f58"), looks := false }, kinds := [], alts := [], laidByText := true, laidKinds := [.data, .pinned], laidTests := true, laidLooks := .later }
def FieldsBackCardSaid : Prop := Claim7.holds Tryd.pinned (.plain (OpenSpec.ofChange fieldsBackSpec)) fieldsBackCard

/-- THE TIED CARD OF 'lighteragelaw.FieldsDoes'. -/
def fieldsDoesCard : Claim7 := { stood := { row := fieldsDoesRow, standIns := [], harness := (true, "2ccca15a6d4073031f635fda9fa7fd7aafdd6c251d9a23ebd2d1926802f89f58"), looks := false }, kinds := [], alts := [], laidByText := true, laidKinds := [.data, .pinned], laidTests := true, laidLooks := .later }
def FieldsDoesCardSaid : Prop := Claim7.holds Tryd.pinned (.plain (OpenSpec.ofChange fieldsDoesSpec)) fieldsDoesCard

/-- THE SECOND FORM's CARD OF 'lighteragelaw.CharsBack'. -/
def charsBackUptoCard : Claim7 := { stood := { row := charsBackUptoRow, standIns := [], harness := (true, "2ccca15a6d4073031f635fda9fa7fd7aafdd6c251d9a23ebd2d1926802f89f58"), looks := false }, kinds := [], alts := [], laidByText := true, laidKinds := [.data, .pinned], laidTests := true, laidLooks := .later }
def CharsBackUptoCardSaid : Prop := Claim7.holds Tryd.pinned (.plain (OpenSpec.upto charsBackSpec)) charsBackUptoCard

/-- THE SECOND FORM's CARD OF 'lighteragelaw.CharsDoes'. -/
def charsDoesUptoCard : Claim7 := { stood := { row := charsDoesUptoRow, standIns := [], harness := (true, "2ccca15a6d4073031f635fda9fa7fd7aafdd6c251d9a23ebd2d1926802f89f58"), looks := false }, kinds := [], alts := [], laidByText := true, laidKinds := [.data, .pinned], laidTests := true, laidLooks := .later }
def CharsDoesUptoCardSaid : Prop := Claim7.holds Tryd.pinned (.plain (OpenSpec.upto charsDoesSpec)) charsDoesUptoCard

/-- THE SECOND FORM's CARD OF 'lighteragelaw.FieldsBack'. -/
def fieldsBackUptoCard : Claim7 := { stood := { row := fieldsBackUptoRow, standIns := [], harness := (true, "2ccca15a6d4073031f635fda9fa7fd7aafdd6c251d9a23ebd2d1926802f89f58"), looks := false }, kinds := [], alts := [], laidByText := true, laidKinds := [.data, .pinned], laidTests := true, laidLooks := .later }
def FieldsBackUptoCardSaid : Prop := Claim7.holds Tryd.pinned (.plain (OpenSpec.upto fieldsBackSpec)) fieldsBackUptoCard

/-- THE SECOND FORM's CARD OF 'lighteragelaw.FieldsDoes'. -/
def fieldsDoesUptoCard : Claim7 := { stood := { row := fieldsDoesUptoRow, standIns := [], harness := (true, "2ccca15a6d4073031f635fda9fa7fd7aafdd6c251d9a23ebd2d1926802f89f58"), looks := false }, kinds := [], alts := [], laidByText := true, laidKinds := [.data, .pinned], laidTests := true, laidLooks := .later }
def FieldsDoesUptoCardSaid : Prop := Claim7.holds Tryd.pinned (.plain (OpenSpec.upto fieldsDoesSpec)) fieldsDoesUptoCard
end Rows
end Go.Proofs.YtmmfcghieefoaaaDoor
