/-
  DERIVED. GIVEN WITH THE SEED: THE CARDS: each row of YtbjckcenlfgcaacDoorRows.lean that lists a variable, with what it lists TIED to the program's text (the seventh form; the later family's looks); each row that meets fmt, with fmt's text TOLD by the authors' own Lean function (tested against real Go, not proved from fmt's source: count such statements apart). THE CARD IS WHAT COUNTS. Prove the row's statement (the work); the ties are given (YtbjckcenlfgcaacDoorTie.lean); close each card by the builder's one call (the guide's Derived/Test/ToyasCard.lean, 'card_holds'). Laid BY PROGRAM, IN A SANDBOX (cutbox-door.mjs). By AI agents, Wed Nov 11 2026. No macro, syntax, notation, axiom, sorry.
-/
import Derived.Test.YtbjckcenlfgcaacDoorRows
import GoSem.ClaimSeven
namespace Go.Proofs.YtbjckcenlfgcaacDoor
namespace Rows

/-- THE TIED CARD OF 'spindlelaw2.IsaOwns'. -/
def isaOwnsCard : Claim7 := { stood := { row := isaOwnsRow, standIns := [], harness := (true, "6eb2a48b8607a5d199e8c00eb573953707455a403ff8fc06e12f46b1bfc313ea"), looks := false }, kinds := [], alts := [], laidByText := true, laidKinds := [.widerDeep, .widerDeep, .widerDeep, .widerDeep, .widerDeep], laidTests := true, laidLooks := .later }
def IsaOwnsCardSaid : Prop := Claim7.holds Tryd.pinned (.plain (OpenSpec.ofChange isaOwnsSpec)) isaOwnsCard

/-- THE TIED CARD OF 'spindlelaw2.IsaTells'. -/
def isaTellsCard : Claim7 := { stood := { row := isaTellsRow, standIns := [], harness := (true, "6eb2a48b8607a5d199e8c00eb573953707455a403ff8fc06e12f46b1bfc313ea"), looks := false }, kinds := [], alts := [], laidByText := true, laidKinds := [.widerDeep, .widerDeep, .widerDeep, .widerDeep, .widerDeep], laidTests := true, laidLooks := .later }
def IsaTellsCardSaid : Prop := Claim7.holds Tryd.pinned (.plain (OpenSpec.ofChange isaTellsSpec)) isaTellsCard

/-- THE SECOND FORM's CARD OF 'spindlelaw2.IsaOwns'. -/
def isaOwnsUptoCard : Claim7 := { stood := { row := isaOwnsUptoRow, standIns := [], harness := (true, "6eb2a48b8607a5d199e8c00eb573953707455a403ff8fc06e12f46b1bfc313ea"), looks := false }, kinds := [], alts := [], laidByText := true, laidKinds := [.widerDeep, .widerDeep, .widerDeep, .widerDeep, .widerDeep], laidTests := true, laidLooks := .later }
def IsaOwnsUptoCardSaid : Prop := Claim7.holds Tryd.pinned (.plain (OpenSpec.upto isaOwnsSpec)) isaOwnsUptoCard

/-- THE SECOND FORM's CARD OF 'spindlelaw2.IsaTells'. -/
def isaTellsUptoCard : Claim7 := { stood := { row := isaTellsUptoRow, standIns := [], harness := (true, "6eb2a48b8607a5d199e8c00eb573953707455a403ff8fc06e12f46b1bfc313ea"), looks := false }, kinds := [], alts := [], laidByText := true, laidKinds := [.widerDeep, .widerDeep, .widerDeep, .widerDeep, .widerDeep], laidTests := true, laidLooks := .later }
def IsaTellsUptoCardSaid : Prop := Claim7.holds Tryd.pinned (.plain (OpenSpec.upto isaTellsSpec)) isaTellsUptoCard
end Rows
end Go.Proofs.YtbjckcenlfgcaacDoor
