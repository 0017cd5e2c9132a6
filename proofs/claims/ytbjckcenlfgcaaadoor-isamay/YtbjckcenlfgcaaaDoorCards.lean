/-
  DERIVED. GIVEN WITH THE SEED: THE CARDS: each row of YtbjckcenlfgcaaaDoorRows.lean that lists a variable, with what it lists TIED to the program's text (the seventh form; the later family's looks); each row that meets fmt, with fmt's text TOLD by the authors' own Lean function (tested against real Go, not proved from fmt's source: count such statements apart). THE CARD IS WHAT COUNTS. Prove the row's statement (the work); the ties are given (YtbjckcenlfgcaaaDoorTie.lean); close each card by the builder's one call (the guide's Derived/Test/ToyasCard.lean, 'card_holds'). Laid BY PROGRAM, IN A SANDBOX (cutbox-door.mjs). By AI agents, Wed Nov 11 2026. No macro, syntax, notation, axiom, sorry.
-/
import Derived.Test.YtbjckcenlfgcaaaDoorRows
import GoSem.ClaimSeven
namespace Go.Proofs.YtbjckcenlfgcaaaDoor
namespace Rows

/-- THE TIED CARD OF 'spindlelaw2.IsaMay'. -/
def isaMayCard : Claim7 := { stood := { row := isaMayRow, standIns := [], harness := (true, "4d9960c44566b19718cce77000f684362d244561fbe5286175e7c7a8332e5baf"), looks := false }, kinds := [], alts := [], laidByText := true, laidKinds := [.widerDeep, .widerDeep, .widerDeep, .widerDeep, .widerDeep], laidTests := true, laidLooks := .later }
def IsaMayCardSaid : Prop := Claim7.holds Tryd.pinned (.plain (OpenSpec.ofChange isaMaySpec)) isaMayCard

/-- THE SECOND FORM's CARD OF 'spindlelaw2.IsaMay'. -/
def isaMayUptoCard : Claim7 := { stood := { row := isaMayUptoRow, standIns := [], harness := (true, "4d9960c44566b19718cce77000f684362d244561fbe5286175e7c7a8332e5baf"), looks := false }, kinds := [], alts := [], laidByText := true, laidKinds := [.widerDeep, .widerDeep, .widerDeep, .widerDeep, .widerDeep], laidTests := true, laidLooks := .later }
def IsaMayUptoCardSaid : Prop := Claim7.holds Tryd.pinned (.plain (OpenSpec.upto isaMaySpec)) isaMayUptoCard
end Rows
end Go.Proofs.YtbjckcenlfgcaaaDoor
