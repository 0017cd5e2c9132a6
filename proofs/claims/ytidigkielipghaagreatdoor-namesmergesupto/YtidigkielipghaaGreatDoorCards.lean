/-
  DERIVED. GIVEN WITH THE SEED: THE CARDS: each row of YtidigkielipghaaGreatDoorRows.lean that lists a variable, with what it lists TIED to the program's text (the seventh form; the later family's looks); each row that meets fmt, with fmt's text TOLD by the authors' own Lean function (tested against real Go, not proved from fmt's source: count such statements apart). THE CARD IS WHAT COUNTS. Prove the row's statement (the work); the ties are given (YtidigkielipghaaGreatDoorTie.lean); close each card by the builder's one call (the guide's Derived/Test/ToyasCard.lean, 'card_holds'). Laid BY PROGRAM, IN A SANDBOX (cutbox-door.mjs). By AI agents, Wed Nov 11 2026. No macro, syntax, notation, axiom, sorry.
-/
import Derived.Test.YtidigkielipghaaGreatDoorRows
import GoSem.ClaimSeven
namespace Go.Proofs.YtidigkielipghaaGreatDoor
namespace Rows

/-- THE TIED CARD OF 'spindlelaw15.NamesMerges'. -/
def namesMergesCard : Claim7 := { stood := { row := namesMergesRow, standIns := [], harness := (true, "5b9b3c12f4361d3d42429785dbbf94cf83300562bf1d1e3d9fae8530d85160b7"), looks := false }, kinds := [], alts := [], laidByText := true, laidKinds := [.widerDeep, .widerDeep, .widerDeep, .widerDeep, .widerDeep], laidTests := true, laidLooks := .later }
def NamesMergesCardSaid : Prop := Claim7.holds Tryz.pinned (.plain (OpenSpec.ofChange namesMergesSpec)) namesMergesCard

/-- THE SECOND FORM's CARD OF 'spindlelaw15.NamesMerges'. -/
def namesMergesUptoCard : Claim7 := { stood := { row := namesMergesUptoRow, standIns := [], harness := (true, "5b9b3c12f4361d3d42429785dbbf94cf83300562bf1d1e3d9fae8530d85160b7"), looks := false }, kinds := [], alts := [], laidByText := true, laidKinds := [.widerDeep, .widerDeep, .widerDeep, .widerDeep, .widerDeep], laidTests := true, laidLooks := .later }
def NamesMergesUptoCardSaid : Prop := Claim7.holds Tryz.pinned (.plain (OpenSpec.upto namesMergesSpec)) namesMergesUptoCard
end Rows
end Go.Proofs.YtidigkielipghaaGreatDoor
