/-
  DERIVED. GIVEN WITH THE SEED: THE CARDS: each row of YtgafhgbnjohbeabDoorRows.lean that lists a variable, with what it lists TIED to the program's text (the seventh form; the later family's looks); each row that meets fmt, with fmt's text TOLD by the authors' own Lean function (tested against real Go, not proved from fmt's source: count such statements apart). THE CARD IS WHAT COUNTS. Prove the row's statement (the work); the ties are given (YtgafhgbnjohbeabDoorTie.lean); close each card by the builder's one call (the guide's Derived/Test/ToyasCard.lean, 'card_holds'). Laid BY PROGRAM, IN A SANDBOX (cutbox-door.mjs). By AI agents, Wed Nov 11 2026. No macro, syntax, notation, axiom, sorry.
-/
import Derived.Test.YtgafhgbnjohbeabDoorRows
import GoSem.ClaimSeven
namespace Go.Proofs.YtgafhgbnjohbeabDoor
namespace Rows

/-- THE TIED CARD OF 'spindlelaw2.IsaMay'. -/
def isaMayCard : Claim7 := { stood := { row := isaMayRow, standIns := [], harness := (true, "5dd4d5d760dec2db632892c559703008a2da2e7d3d766a8c8e3f0a3b97b52b37"), looks := false }, kinds := [], alts := [], laidByText := true, laidKinds := [.widerDeep, .widerDeep, .widerDeep, .widerDeep, .widerDeep], laidTests := true, laidLooks := .later }
def IsaMayCardSaid : Prop := Claim7.holds Tryd.pinned (.plain (OpenSpec.ofChange isaMaySpec)) isaMayCard

/-- THE TIED CARD OF 'spindlelaw2.IsaClass'. -/
def isaClassCard : Claim7 := { stood := { row := isaClassRow, standIns := [], harness := (true, "5dd4d5d760dec2db632892c559703008a2da2e7d3d766a8c8e3f0a3b97b52b37"), looks := false }, kinds := [], alts := [], laidByText := true, laidKinds := [.widerDeep, .widerDeep, .widerDeep, .widerDeep, .widerDeep], laidTests := true, laidLooks := .later }
def IsaClassCardSaid : Prop := Claim7.holds Tryd.pinned (.plain (OpenSpec.ofChange isaClassSpec)) isaClassCard

/-- THE SECOND FORM's CARD OF 'spindlelaw2.IsaMay'. -/
def isaMayUptoCard : Claim7 := { stood := { row := isaMayUptoRow, standIns := [], harness := (true, "5dd4d5d760dec2db632892c559703008a2da2e7d3d766a8c8e3f0a3b97b52b37"), looks := false }, kinds := [], alts := [], laidByText := true, laidKinds := [.widerDeep, .widerDeep, .widerDeep, .widerDeep, .widerDeep], laidTests := true, laidLooks := .later }
def IsaMayUptoCardSaid : Prop := Claim7.holds Tryd.pinned (.plain (OpenSpec.upto isaMaySpec)) isaMayUptoCard

/-- THE SECOND FORM's CARD OF 'spindlelaw2.IsaClass'. -/
def isaClassUptoCard : Claim7 := { stood := { row := isaClassUptoRow, standIns := [], harness := (true, "5dd4d5d760dec2db632892c559703008a2da2e7d3d766a8c8e3f0a3b97b52b37"), looks := false }, kinds := [], alts := [], laidByText := true, laidKinds := [.widerDeep, .widerDeep, .widerDeep, .widerDeep, .widerDeep], laidTests := true, laidLooks := .later }
def IsaClassUptoCardSaid : Prop := Claim7.holds Tryd.pinned (.plain (OpenSpec.upto isaClassSpec)) isaClassUptoCard
end Rows
end Go.Proofs.YtgafhgbnjohbeabDoor
