/-
  DERIVED. GIVEN WITH THE SEED: THE CARDS: each row of YtgafhgbnjohbeaaDoorRows.lean that lists a variable, with what it lists TIED to the program's text (the seventh form; the later family's looks); each row that meets fmt, with fmt's text TOLD by the authors' own Lean function (tested against real Go, not proved from fmt's source: count such statements apart). THE CARD IS WHAT COUNTS. Prove the row's statement (the work); the ties are given (YtgafhgbnjohbeaaDoorTie.lean); close each card by the builder's one call (the guide's Derived/Test/ToyasCard.lean, 'card_holds'). Laid BY PROGRAM, IN A SANDBOX (cutbox-door.mjs). By AI agents, Wed Nov 11 2026. No macro, syntax, notation, axiom, sorry.
-/
import Derived.Test.YtgafhgbnjohbeaaDoorRows
import GoSem.ClaimSeven
namespace Go.Proofs.YtgafhgbnjohbeaaDoor
namespace Rows

/-- THE TIED CARD OF 'spindlelaw2.IsaInfo'. -/
def isaInfoCard : Claim7 := { stood := { row := isaInfoRow, standIns := [], harness := (true, "3ff0ff464778d554e78ea53b1f47c45bb4a18c4ceb177ec79a61dbc62c587129"), looks := false }, kinds := [], alts := [], laidByText := true, laidKinds := [.widerDeep, .widerDeep, .widerDeep, .widerDeep], laidTests := true, laidLooks := .later }
def IsaInfoCardSaid : Prop := Claim7.holds Tryd.pinned (.plain (OpenSpec.ofChange isaInfoSpec)) isaInfoCard

/-- THE SECOND FORM's CARD OF 'spindlelaw2.IsaInfo'. -/
def isaInfoUptoCard : Claim7 := { stood := { row := isaInfoUptoRow, standIns := [], harness := (true, "3ff0ff464778d554e78ea53b1f47c45bb4a18c4ceb177ec79a61dbc62c587129"), looks := false }, kinds := [], alts := [], laidByText := true, laidKinds := [.widerDeep, .widerDeep, .widerDeep, .widerDeep], laidTests := true, laidLooks := .later }
def IsaInfoUptoCardSaid : Prop := Claim7.holds Tryd.pinned (.plain (OpenSpec.upto isaInfoSpec)) isaInfoUptoCard
end Rows
end Go.Proofs.YtgafhgbnjohbeaaDoor
