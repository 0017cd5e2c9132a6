/-
  DERIVED. GIVEN WITH THE SEED: THE CARDS: each row of YtnemobbnlacmjaaDoorRows.lean that lists a variable, with what it lists TIED to the program's text (the seventh form; the later family's looks); each row that meets fmt, with fmt's text TOLD by the authors' own Lean function (tested against real Go, not proved from fmt's source: count such statements apart). THE CARD IS WHAT COUNTS. Prove the row's statement (the work); the ties are given (YtnemobbnlacmjaaDoorTie.lean); close each card by the builder's one call (the guide's Derived/Test/ToyasCard.lean, 'card_holds'). Laid BY PROGRAM, IN A SANDBOX (cutbox-door.mjs). By AI agents, Wed Nov 11 2026. No macro, syntax, notation, axiom, sorry.
-/
import Derived.Test.YtnemobbnlacmjaaDoorRows
import GoSem.ClaimSeven
namespace Go.Proofs.YtnemobbnlacmjaaDoor
namespace Rows

/-- THE TIED CARD OF 'spindlelaw3.CodeDecodes'. -/
def codeDecodesCard : Claim7 := { stood := { row := codeDecodesRow, standIns := [], harness := (true, "771227af14e2044d6d88c35d81845a081137e7f6f7284b929f190d833c3af359"), looks := false }, kinds := [], alts := [], laidByText := true, laidKinds := [.widerDeep, .widerDeep, .widerDeep, .widerDeep, .widerDeep], laidTests := true, laidLooks := .later }
def CodeDecodesCardSaid : Prop := Claim7.holds Tryd.pinned (.plain (OpenSpec.ofChange codeDecodesSpec)) codeDecodesCard

/-- THE TIED CARD OF 'spindlelaw2.IsaOwns'. -/
def isaOwnsCard : Claim7 := { stood := { row := isaOwnsRow, standIns := [], harness := (true, "771227af14e2044d6d88c35d81845a081137e7f6f7284b929f190d833c3af359"), looks := false }, kinds := [], alts := [], laidByText := true, laidKinds := [.widerDeep, .widerDeep, .widerDeep, .widerDeep, .widerDeep], laidTests := true, laidLooks := .later }
def IsaOwnsCardSaid : Prop := Claim7.holds Tryd.pinned (.plain (OpenSpec.ofChange isaOwnsSpec)) isaOwnsCard

/-- THE SECOND FORM's CARD OF 'spindlelaw3.CodeDecodes'. -/
def codeDecodesUptoCard : Claim7 := { stood := { row := codeDecodesUptoRow, standIns := [], harness := (true, "771227af14e2044d6d88c35d81845a081137e7f6f7284b929f190d833c3af359"), looks := false }, kinds := [], alts := [], laidByText := true, laidKinds := [.widerDeep, .widerDeep, .widerDeep, .widerDeep, .widerDeep], laidTests := true, laidLooks := .later }
def CodeDecodesUptoCardSaid : Prop := Claim7.holds Tryd.pinned (.plain (OpenSpec.upto codeDecodesSpec)) codeDecodesUptoCard

/-- THE SECOND FORM's CARD OF 'spindlelaw2.IsaOwns'. -/
def isaOwnsUptoCard : Claim7 := { stood := { row := isaOwnsUptoRow, standIns := [], harness := (true, "771227af14e2044d6d88c35d81845a081137e7f6f7284b929f190d833c3af359"), looks := false }, kinds := [], alts := [], laidByText := true, laidKinds := [.widerDeep, .widerDeep, .widerDeep, .widerDeep, .widerDeep], laidTests := true, laidLooks := .later }
def IsaOwnsUptoCardSaid : Prop := Claim7.holds Tryd.pinned (.plain (OpenSpec.upto isaOwnsSpec)) isaOwnsUptoCard
end Rows
end Go.Proofs.YtnemobbnlacmjaaDoor
