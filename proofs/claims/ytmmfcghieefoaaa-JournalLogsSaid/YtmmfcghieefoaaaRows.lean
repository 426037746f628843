/-
  No cell of these rows narrows 'for every input' (looked for: loops, veiled, ifaces, maps, wideKeys, modest, calm, conditions, laid).
  DERIVED. THE GIVEN ROWS OF THIS SEAT. 8 by the template 'for every input the law returns true; each argument reads behind the call as it read before'; 0 by the template 'total and deterministic' (their statements: YtmmfcghieefoaaaTotals.lean).
  GIVEN WITH THE SEED: the statements are not yours to turn. If you find one false, say at which input.
  Laid BY PROGRAM, IN A SANDBOX (cutbox-rows.mjs): the forced cells as the released guide's own fill.sh prints them over the translation 151ea050c5d06d6a… (all of the seat's roots in one cut). By AI agents, Wed Nov 11 2026. No macro, syntax, notation, axiom, sorry.
-/
import Derived.Test.YtmmfcghieefoaaaChecked
import GoSem.Claim
import GoSem.ClaimJoined
import GoSem.ClaimMapViews
import Derived.JoinedTies
import Derived.KernelRfl
namespace Go.Proofs.Ytmmfcghieefoaaa
/- THE CELL 'sum', in the pinned program and in every row, IS THE sha256 OF THE DUMP (.gsa) THAT YtmmfcghieefoaaaProg.lean LOADS. Nothing in Lean hashes anything: it is a label: what it is worth is what the hold of that sum in a sandbox is worth. -/
noncomputable def Try.pinned : Pinned := { name := "ytmmfcghieefoaaa", sum := "151ea050c5d06d6a02991af5212b6a08cb2e37f7952b9108bff55dbd55af06dd", checked := Try.checked }
namespace Rows
def none {H : Type} : Left H := { results := [], args := [] }

/-- 'lighteragelaw.LinesDoes': WHATEVER THE INPUT: true; the input reads as it did. -/
def linesDoesSpec : ChangeSpec := { name := "linesDoes", fn := fun _ => fun
  | [d] => { results := [.lit (.bool true)], args := [d] }
  | _ => none }
def linesDoesRow : OpenClaim := { program := "ytmmfcghieefoaaa", sum := "151ea050c5d06d6a02991af5212b6a08cb2e37f7952b9108bff55dbd55af06dd", func := "lighterage/lighteragelaw.LinesDoes", spec := "linesDoes", apart := false }
def LinesDoesSaid : Prop := linesDoesRow.holds Try.pinned (OpenSpec.ofChange linesDoesSpec)

/-- ITS FALSE NEIGHBOUR: 'it returns false'. Refute it at one input. -/
def linesDoesWrong : ChangeSpec := { name := "linesDoes", fn := fun _ => fun
  | [d] => { results := [.lit (.bool false)], args := [d] }
  | _ => none }
def LinesDoesWrongFalsely : Prop := linesDoesRow.holds Try.pinned (OpenSpec.ofChange linesDoesWrong)

/-- 'lighteragelaw.LinesBack': WHATEVER THE INPUT: true; the input reads as it did. -/
def linesBackSpec : ChangeSpec := { name := "linesBack", fn := fun _ => fun
  | [d] => { results := [.lit (.bool true)], args := [d] }
  | _ => none }
def linesBackRow : OpenClaim := { program := "ytmmfcghieefoaaa", sum := "151ea050c5d06d6a02991af5212b6a08cb2e37f7952b9108bff55dbd55af06dd", func := "lighterage/lighteragelaw.LinesBack", spec := "linesBack", apart := false }
def LinesBackSaid : Prop := linesBackRow.holds Try.pinned (OpenSpec.ofChange linesBackSpec)

/-- ITS FALSE NEIGHBOUR: 'it returns false'. Refute it at one input. -/
def linesBackWrong : ChangeSpec := { name := "linesBack", fn := fun _ => fun
  | [d] => { results := [.lit (.bool false)], args := [d] }
  | _ => none }
def LinesBackWrongFalsely : Prop := linesBackRow.holds Try.pinned (OpenSpec.ofChange linesBackWrong)

/-- 'lighteragelaw.SeekDoes': WHATEVER THE INPUT: true; the input reads as it did. -/
def seekDoesSpec : ChangeSpec := { name := "seekDoes", fn := fun _ => fun
  | [d1, d2, d3] => { results := [.lit (.bool true)], args := [d1, d2, d3] }
  | _ => none }
def seekDoesRow : OpenClaim := { program := "ytmmfcghieefoaaa", sum := "151ea050c5d06d6a02991af5212b6a08cb2e37f7952b9108bff55dbd55af06dd", func := "lighterage/lighteragelaw.SeekDoes", spec := "seekDoes", apart := false }
def SeekDoesSaid : Prop := seekDoesRow.holds Try.pinned (OpenSpec.ofChange seekDoesSpec)

/-- ITS FALSE NEIGHBOUR: 'it returns false'. Refute it at one input. -/
def seekDoesWrong : ChangeSpec := { name := "seekDoes", fn := fun _ => fun
  | [d1, d2, d3] => { results := [.lit (.bool false)], args := [d1, d2, d3] }
  | _ => none }
def SeekDoesWrongFalsely : Prop := seekDoesRow.holds Try.pinned (OpenSpec.ofChange seekDoesWrong)

/-- 'lighteragelaw.SeekWhole': WHATEVER THE INPUT: true; the input reads as it did. -/
def seekWholeSpec : ChangeSpec := { name := "seekWhole", fn := fun _ => fun
  | [d1, d2] => { results := [.lit (.bool true)], args := [d1, d2] }
  | _ => none }
def seekWholeRow : OpenClaim := { program := "ytmmfcghieefoaaa", sum := "151ea050c5d06d6a02991af5212b6a08cb2e37f7952b9108bff55dbd55af06dd", func := "lighterage/lighteragelaw.SeekWhole", spec := "seekWhole", apart := false }
def SeekWholeSaid : Prop := seekWholeRow.holds Try.pinned (OpenSpec.ofChange seekWholeSpec)

/-- ITS FALSE NEIGHBOUR: 'it returns false'. Refute it at one input. -/
def seekWholeWrong : ChangeSpec := { name := "seekWhole", fn := fun _ => fun
  | [d1, d2] => { results := [.lit (.bool false)], args := [d1, d2] }
  | _ => none }
def SeekWholeWrongFalsely : Prop := seekWholeRow.holds Try.pinned (OpenSpec.ofChange seekWholeWrong)

/-- 'lighteragelaw.JournalDoes': WHATEVER THE INPUT: true; the input reads as it did. -/
def journalDoesSpec : ChangeSpec := { name := "journalDoes", fn := fun _ => fun
  | [d1, d2] => { results := [.lit (.bool true)], args := [d1, d2] }
  | _ => none }
def journalDoesRow : OpenClaim := { program := "ytmmfcghieefoaaa", sum := "151ea050c5d06d6a02991af5212b6a08cb2e37f7952b9108bff55dbd55af06dd", func := "lighterage/lighteragelaw.JournalDoes", spec := "journalDoes", unfollowed := true, recurses := true, apart := false }
def JournalDoesSaid : Prop := journalDoesRow.holds Try.pinned (OpenSpec.ofChange journalDoesSpec)

/-- ITS FALSE NEIGHBOUR: 'it returns false'. Refute it at one input. -/
def journalDoesWrong : ChangeSpec := { name := "journalDoes", fn := fun _ => fun
  | [d1, d2] => { results := [.lit (.bool false)], args := [d1, d2] }
  | _ => none }
def JournalDoesWrongFalsely : Prop := journalDoesRow.holds Try.pinned (OpenSpec.ofChange journalDoesWrong)

/-- 'lighteragelaw.JournalTorn': WHATEVER THE INPUT: true; the input reads as it did. -/
def journalTornSpec : ChangeSpec := { name := "journalTorn", fn := fun _ => fun
  | [d1, d2] => { results := [.lit (.bool true)], args := [d1, d2] }
  | _ => none }
def journalTornRow : OpenClaim := { program := "ytmmfcghieefoaaa", sum := "151ea050c5d06d6a02991af5212b6a08cb2e37f7952b9108bff55dbd55af06dd", func := "lighterage/lighteragelaw.JournalTorn", spec := "journalTorn", unfollowed := true, recurses := true, apart := false }
def JournalTornSaid : Prop := journalTornRow.holds Try.pinned (OpenSpec.ofChange journalTornSpec)

/-- ITS FALSE NEIGHBOUR: 'it returns false'. Refute it at one input. -/
def journalTornWrong : ChangeSpec := { name := "journalTorn", fn := fun _ => fun
  | [d1, d2] => { results := [.lit (.bool false)], args := [d1, d2] }
  | _ => none }
def JournalTornWrongFalsely : Prop := journalTornRow.holds Try.pinned (OpenSpec.ofChange journalTornWrong)

/-- 'lighteragelaw.JournalBack': WHATEVER THE INPUT: true; the input reads as it did. -/
def journalBackSpec : ChangeSpec := { name := "journalBack", fn := fun _ => fun
  | [d] => { results := [.lit (.bool true)], args := [d] }
  | _ => none }
def journalBackRow : OpenClaim := { program := "ytmmfcghieefoaaa", sum := "151ea050c5d06d6a02991af5212b6a08cb2e37f7952b9108bff55dbd55af06dd", func := "lighterage/lighteragelaw.JournalBack", spec := "journalBack", unfollowed := true, recurses := true, apart := false }
def JournalBackSaid : Prop := journalBackRow.holds Try.pinned (OpenSpec.ofChange journalBackSpec)

/-- ITS FALSE NEIGHBOUR: 'it returns false'. Refute it at one input. -/
def journalBackWrong : ChangeSpec := { name := "journalBack", fn := fun _ => fun
  | [d] => { results := [.lit (.bool false)], args := [d] }
  | _ => none }
def JournalBackWrongFalsely : Prop := journalBackRow.holds Try.pinned (OpenSpec.ofChange journalBackWrong)

/-- 'lighteragelaw.JournalLogs': WHATEVER THE INPUT: true; the input reads as it did. -/
def journalLogsSpec : ChangeSpec := { name := "journalLogs", fn := fun _ => fun
  | [d1, d2] => { results := [.lit (.bool true)], args := [d1, d2] }
  | _ => none }
def journalLogsRow : OpenClaim := { program := "ytmmfcghieefoaaa", sum := "151ea050c5d06d6a02991af5212b6a08cb2e37f7952b9108bff55dbd55af06dd", func := "lighterage/lighteragelaw.JournalLogs", spec := "journalLogs", unfollowed := true, recurses := true, apart := false }
def JournalLogsSaid : Prop := journalLogsRow.holds Try.pinned (OpenSpec.ofChange journalLogsSpec)

/-- ITS FALSE NEIGHBOUR: 'it returns false'. Refute it at one input. -/
def journalLogsWrong : ChangeSpec := { name := "journalLogs", fn := fun _ => fun
  | [d1, d2] => { results := [.lit (.bool false)], args := [d1, d2] }
  | _ => none }
def JournalLogsWrongFalsely : Prop := journalLogsRow.holds Try.pinned (OpenSpec.ofChange journalLogsWrong)

/- THE SECOND FORM. 'bulk': how many values and letters a reading holds, each counted each time it is reached (what is shared counts as often as it is met; a slice's spare places count too). A statement '..UptoSaid' is the law's where the arguments, and the package variables that the reading takes, are together of bulk at most 1048576: NARROWER than '..Said'. Prove '..Said' where nothing that the law and all that it calls make is longer than what came in: it says more and counts as full. Else prove '..UptoSaid'. A law counts once. -/
mutual
def uptoBulk {H : Type} : DataW H → Nat
  | .lit (.string bytes) => bytes.length + 1
  | .lit _ => 1
  | .nil => 1
  | .ptr d => uptoBulk d + 1
  | .slice elems spare => uptoBulkAll elems + uptoBulkAll spare + 1
  | .agg parts => uptoBulkAll parts + 1
  | .iface _ d => uptoBulk d + 1
  | .map entries => uptoBulkEntries entries + 1
  | .held _ => 1
def uptoBulkAll {H : Type} : List (DataW H) → Nat
  | [] => 0
  | d :: r => uptoBulk d + uptoBulkAll r
def uptoBulkEntries {H : Type} : List (Lit × DataW H) → Nat
  | [] => 0
  | x :: r => uptoBulkEntry x + uptoBulkEntries r
def uptoBulkEntry {H : Type} : Lit × DataW H → Nat
  | (.string bytes, d) => bytes.length + uptoBulk d + 1
  | (_, d) => uptoBulk d + 1
 end
def uptoSmall : (H : Type) → List (DataW H) → Bool := fun _ ds => decide (uptoBulkAll ds ≤ 1048576)
def OpenSpec.upto (s : _root_.Go.ChangeSpec) : _root_.Go.OpenSpec := { _root_.Go.OpenSpec.ofChange s with cond := some uptoSmall }

/-- 'lighteragelaw.LinesDoes', WHERE WHAT IT READS IS OF BULK AT MOST 1048576: true; the input reads as it did. -/
def linesDoesUptoRow : OpenClaim := { program := "ytmmfcghieefoaaa", sum := "151ea050c5d06d6a02991af5212b6a08cb2e37f7952b9108bff55dbd55af06dd", func := "lighterage/lighteragelaw.LinesDoes", spec := "linesDoes", apart := false, narrowed := true }
def LinesDoesUptoSaid : Prop := linesDoesUptoRow.holds Try.pinned (OpenSpec.upto linesDoesSpec)

/-- 'lighteragelaw.LinesBack', WHERE WHAT IT READS IS OF BULK AT MOST 1048576: true; the input reads as it did. -/
def linesBackUptoRow : OpenClaim := { program := "ytmmfcghieefoaaa", sum := "151ea050c5d06d6a02991af5212b6a08cb2e37f7952b9108bff55dbd55af06dd", func := "lighterage/lighteragelaw.LinesBack", spec := "linesBack", apart := false, narrowed := true }
def LinesBackUptoSaid : Prop := linesBackUptoRow.holds Try.pinned (OpenSpec.upto linesBackSpec)

/-- 'lighteragelaw.SeekDoes', WHERE WHAT IT READS IS OF BULK AT MOST 1048576: true; the input reads as it did. -/
def seekDoesUptoRow : OpenClaim := { program := "ytmmfcghieefoaaa", sum := "151ea050c5d06d6a02991af5212b6a08cb2e37f7952b9108bff55dbd55af06dd", func := "lighterage/lighteragelaw.SeekDoes", spec := "seekDoes", apart := false, narrowed := true }
def SeekDoesUptoSaid : Prop := seekDoesUptoRow.holds Try.pinned (OpenSpec.upto seekDoesSpec)

/-- 'lighteragelaw.SeekWhole', WHERE WHAT IT READS IS OF BULK AT MOST 1048576: true; the input reads as it did. -/
def seekWholeUptoRow : OpenClaim := { program := "ytmmfcghieefoaaa", sum := "151ea050c5d06d6a02991af5212b6a08cb2e37f7952b9108bff55dbd55af06dd", func := "lighterage/lighteragelaw.SeekWhole", spec := "seekWhole", apart := false, narrowed := true }
def SeekWholeUptoSaid : Prop := seekWholeUptoRow.holds Try.pinned (OpenSpec.upto seekWholeSpec)

/-- 'lighteragelaw.JournalDoes', WHERE WHAT IT READS IS OF BULK AT MOST 1048576: true; the input reads as it did. -/
def journalDoesUptoRow : OpenClaim := { program := "ytmmfcghieefoaaa", sum := "151ea050c5d06d6a02991af5212b6a08cb2e37f7952b9108bff55dbd55af06dd", func := "lighterage/lighteragelaw.JournalDoes", spec := "journalDoes", unfollowed := true, recurses := true, apart := false, narrowed := true }
def JournalDoesUptoSaid : Prop := journalDoesUptoRow.holds Try.pinned (OpenSpec.upto journalDoesSpec)

/-- 'lighteragelaw.JournalTorn', WHERE WHAT IT READS IS OF BULK AT MOST 1048576: true; the input reads as it did. -/
def journalTornUptoRow : OpenClaim := { program := "ytmmfcghieefoaaa", sum := "151ea050c5d06d6a02991af5212b6a08cb2e37f7952b9108bff55dbd55af06dd", func := "lighterage/lighteragelaw.JournalTorn", spec := "journalTorn", unfollowed := true, recurses := true, apart := false, narrowed := true }
def JournalTornUptoSaid : Prop := journalTornUptoRow.holds Try.pinned (OpenSpec.upto journalTornSpec)

/-- 'lighteragelaw.JournalBack', WHERE WHAT IT READS IS OF BULK AT MOST 1048576: true; the input reads as it did. -/
def journalBackUptoRow : OpenClaim := { program := "ytmmfcghieefoaaa", sum := "151ea050c5d06d6a02991af5212b6a08cb2e37f7952b9108bff55dbd55af06dd", func := "lighterage/lighteragelaw.JournalBack", spec := "journalBack", unfollowed := true, recurses := true, apart := false, narrowed := true }
def JournalBackUptoSaid : Prop := journalBackUptoRow.holds Try.pinned (OpenSpec.upto journalBackSpec)

/-- 'lighteragelaw.JournalLogs', WHERE WHAT IT READS IS OF BULK AT MOST 1048576: true; the input reads as it did. -/
def journalLogsUptoRow : OpenClaim := { program := "ytmmfcghieefoaaa", sum := "151ea050c5d06d6a02991af5212b6a08cb2e37f7952b9108bff55dbd55af06dd", func := "lighterage/lighteragelaw.JournalLogs", spec := "journalLogs", unfollowed := true, recurses := true, apart := false, narrowed := true }
def JournalLogsUptoSaid : Prop := journalLogsUptoRow.holds Try.pinned (OpenSpec.upto journalLogsSpec)

end Rows
end Go.Proofs.Ytmmfcghieefoaaa
