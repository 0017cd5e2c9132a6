/-
  DERIVED. GIVEN WITH THE SEED: THE CARDS: each row of YtbjckcenlfgcaabDoorRows.lean that lists a variable, with what it lists TIED to the program's text (the seventh form; the later family's looks); each row that meets fmt, with fmt's text TOLD by the authors' own Lean function (tested against real Go, not proved from fmt's source: count such statements apart). THE CARD IS WHAT COUNTS. Prove the row's statement (the work); the ties are given (YtbjckcenlfgcaabDoorTie.lean); close each card by the builder's one call (the guide's Derived/Test/ToyasCard.lean, 'card_holds'). Laid BY PROGRAM, IN A SANDBOX (cutbox-door.mjs). By AI agents, Wed Nov 11 2026. No macro, syntax, notation, axiom, sorry.
-/
import Derived.Test.YtbjckcenlfgcaabDoorRows
import GoSem.ClaimSeven
namespace Go.Proofs.YtbjckcenlfgcaabDoor
namespace Rows

/-- THE TIED CARD OF 'spindlelaw3.CodeEncodes'. -/
def codeEncodesCard : Claim7 := { stood := { row := codeEncodesRow, standIns := [], harness := (true, "bf3be04cfa3b179bb10a1c17409c84b7b2204c4e2f5624f07a9de814849e0ce5"), looks := false }, kinds := [], alts := [], laidByText := true, laidKinds := [.widerDeep, .widerDeep, .widerDeep, .widerDeep, .widerDeep], laidTests := true, laidLooks := .later }
def CodeEncodesCardSaid : Prop := Claim7.holds Tryd.pinned (.plain (OpenSpec.ofChange codeEncodesSpec)) codeEncodesCard

/-- THE TIED CARD OF 'spindlelaw3.CodeDecodes'. -/
def codeDecodesCard : Claim7 := { stood := { row := codeDecodesRow, standIns := [], harness := (true, "bf3be04cfa3b179bb10a1c17409c84b7b2204c4e2f5624f07a9de814849e0ce5"), looks := false }, kinds := [], alts := [], laidByText := true, laidKinds := [.widerDeep, .widerDeep, .widerDeep, .widerDeep, .widerDeep], laidTests := true, laidLooks := .later }
def CodeDecodesCardSaid : Prop := Claim7.holds Tryd.pinned (.plain (OpenSpec.ofChange codeDecodesSpec)) codeDecodesCard

/-- THE TIED CARD OF 'spindlelaw3.CodeBack'. -/
def codeBackCard : Claim7 := { stood := { row := codeBackRow, standIns := [], harness := (true, "bf3be04cfa3b179bb10a1c17409c84b7b2204c4e2f5624f07a9de814849e0ce5"), looks := false }, kinds := [], alts := [], laidByText := true, laidKinds := [.widerDeep, .widerDeep, .widerDeep, .widerDeep, .widerDeep], laidTests := true, laidLooks := .later }
def CodeBackCardSaid : Prop := Claim7.holds Tryd.pinned (.plain (OpenSpec.ofChange codeBackSpec)) codeBackCard

/-- THE TIED CARD OF 'spindlelaw3.CodeForth'. -/
def codeForthCard : Claim7 := { stood := { row := codeForthRow, standIns := [], harness := (true, "bf3be04cfa3b179bb10a1c17409c84b7b2204c4e2f5624f07a9de814849e0ce5"), looks := false }, kinds := [], alts := [], laidByText := true, laidKinds := [.widerDeep, .widerDeep, .widerDeep, .widerDeep, .widerDeep], laidTests := true, laidLooks := .later }
def CodeForthCardSaid : Prop := Claim7.holds Tryd.pinned (.plain (OpenSpec.ofChange codeForthSpec)) codeForthCard

/-- THE TIED CARD OF 'spindlelaw3.CodeJoins'. -/
def codeJoinsCard : Claim7 := { stood := { row := codeJoinsRow, standIns := [], harness := (true, "bf3be04cfa3b179bb10a1c17409c84b7b2204c4e2f5624f07a9de814849e0ce5"), looks := false }, kinds := [], alts := [], laidByText := true, laidKinds := [.widerDeep, .widerDeep, .widerDeep, .widerDeep, .widerDeep], laidTests := true, laidLooks := .later }
def CodeJoinsCardSaid : Prop := Claim7.holds Tryd.pinned (.plain (OpenSpec.ofChange codeJoinsSpec)) codeJoinsCard

/-- THE TIED CARD OF 'spindlelaw2.IsaRow'. -/
def isaRowCard : Claim7 := { stood := { row := isaRowRow, standIns := [], harness := (true, "bf3be04cfa3b179bb10a1c17409c84b7b2204c4e2f5624f07a9de814849e0ce5"), looks := false }, kinds := [], alts := [], laidByText := true, laidKinds := [.widerDeep, .widerDeep, .widerDeep, .widerDeep, .widerDeep], laidTests := true, laidLooks := .later }
def IsaRowCardSaid : Prop := Claim7.holds Tryd.pinned (.plain (OpenSpec.ofChange isaRowSpec)) isaRowCard

/-- THE SECOND FORM's CARD OF 'spindlelaw3.CodeEncodes'. -/
def codeEncodesUptoCard : Claim7 := { stood := { row := codeEncodesUptoRow, standIns := [], harness := (true, "bf3be04cfa3b179bb10a1c17409c84b7b2204c4e2f5624f07a9de814849e0ce5"), looks := false }, kinds := [], alts := [], laidByText := true, laidKinds := [.widerDeep, .widerDeep, .widerDeep, .widerDeep, .widerDeep], laidTests := true, laidLooks := .later }
def CodeEncodesUptoCardSaid : Prop := Claim7.holds Tryd.pinned (.plain (OpenSpec.upto codeEncodesSpec)) codeEncodesUptoCard

/-- THE SECOND FORM's CARD OF 'spindlelaw3.CodeDecodes'. -/
def codeDecodesUptoCard : Claim7 := { stood := { row := codeDecodesUptoRow, standIns := [], harness := (true, "bf3be04cfa3b179bb10a1c17409c84b7b2204c4e2f5624f07a9de814849e0ce5"), looks := false }, kinds := [], alts := [], laidByText := true, laidKinds := [.widerDeep, .widerDeep, .widerDeep, .widerDeep, .widerDeep], laidTests := true, laidLooks := .later }
def CodeDecodesUptoCardSaid : Prop := Claim7.holds Tryd.pinned (.plain (OpenSpec.upto codeDecodesSpec)) codeDecodesUptoCard

/-- THE SECOND FORM's CARD OF 'spindlelaw3.CodeBack'. -/
def codeBackUptoCard : Claim7 := { stood := { row := codeBackUptoRow, standIns := [], harness := (true, "bf3be04cfa3b179bb10a1c17409c84b7b2204c4e2f5624f07a9de814849e0ce5"), looks := false }, kinds := [], alts := [], laidByText := true, laidKinds := [.widerDeep, .widerDeep, .widerDeep, .widerDeep, .widerDeep], laidTests := true, laidLooks := .later }
def CodeBackUptoCardSaid : Prop := Claim7.holds Tryd.pinned (.plain (OpenSpec.upto codeBackSpec)) codeBackUptoCard

/-- THE SECOND FORM's CARD OF 'spindlelaw3.CodeForth'. -/
def codeForthUptoCard : Claim7 := { stood := { row := codeForthUptoRow, standIns := [], harness := (true, "bf3be04cfa3b179bb10a1c17409c84b7b2204c4e2f5624f07a9de814849e0ce5"), looks := false }, kinds := [], alts := [], laidByText := true, laidKinds := [.widerDeep, .widerDeep, .widerDeep, .widerDeep, .widerDeep], laidTests := true, laidLooks := .later }
def CodeForthUptoCardSaid : Prop := Claim7.holds Tryd.pinned (.plain (OpenSpec.upto codeForthSpec)) codeForthUptoCard

/-- THE SECOND FORM's CARD OF 'spindlelaw3.CodeJoins'. -/
def codeJoinsUptoCard : Claim7 := { stood := { row := codeJoinsUptoRow, standIns := [], harness := (true, "bf3be04cfa3b179bb10a1c17409c84b7b2204c4e2f5624f07a9de814849e0ce5"), looks := false }, kinds := [], alts := [], laidByText := true, laidKinds := [.widerDeep, .widerDeep, .widerDeep, .widerDeep, .widerDeep], laidTests := true, laidLooks := .later }
def CodeJoinsUptoCardSaid : Prop := Claim7.holds Tryd.pinned (.plain (OpenSpec.upto codeJoinsSpec)) codeJoinsUptoCard

/-- THE SECOND FORM's CARD OF 'spindlelaw2.IsaRow'. -/
def isaRowUptoCard : Claim7 := { stood := { row := isaRowUptoRow, standIns := [], harness := (true, "bf3be04cfa3b179bb10a1c17409c84b7b2204c4e2f5624f07a9de814849e0ce5"), looks := false }, kinds := [], alts := [], laidByText := true, laidKinds := [.widerDeep, .widerDeep, .widerDeep, .widerDeep, .widerDeep], laidTests := true, laidLooks := .later }
def IsaRowUptoCardSaid : Prop := Claim7.holds Tryd.pinned (.plain (OpenSpec.upto isaRowSpec)) isaRowUptoCard
end Rows
end Go.Proofs.YtbjckcenlfgcaabDoor
