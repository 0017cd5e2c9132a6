/-
  DERIVED. GIVEN WITH THE SEED: THE PROGRAM's TIES (one call each: nine closed facts by the kernel) AND EACH ROW's TIE, after the 31st guide's Derived/Test/Toyas{Tie, Card}.lean. No idea stands in it: it is a product of the set-up. Laid BY PROGRAM, IN A SANDBOX (cutbox-door.mjs). By AI agents, Wed Nov 11 2026. No macro, syntax, notation, axiom, sorry.
-/
import Derived.Test.YtidigkielipghaaGreatDoorRows
import Derived.LaidByTextLater
import Derived.SevenTiedAt
import Derived.LaidSub
import Derived.LaidOnce
namespace Go.Proofs.YtidigkielipghaaGreatDoor
open Go
set_option maxRecDepth 100000
theorem seatTie1 : Tryz.prog.laidByTextLater [("spindle/isa.arithmetic", Rows.laid_spindle_isa_arithmetic), ("spindle/isa.compares", Rows.laid_spindle_isa_compares), ("spindle/isa.loads", Rows.laid_spindle_isa_loads), ("spindle/isa.stores", Rows.laid_spindle_isa_stores), ("spindle/isa.atomics", Rows.laid_spindle_isa_atomics)] [.widerDeep, .widerDeep, .widerDeep, .widerDeep, .widerDeep] true :=
  Program.laidByTextLater_by_one 34 8 13 (by kernel_rfl) (by kernel_rfl) (by kernel_rfl) (by kernel_rfl) (by kernel_rfl) (by kernel_rfl) (fun _ _ => by kernel_rfl)
theorem noOwnUnsafe : Tryz.pinned.checked.prog.headLifts.contains "ownunsafe" = false := by kernel_rfl
theorem tie : Tryz.prog.laidByTextLater [("spindle/isa.arithmetic", Rows.laid_spindle_isa_arithmetic), ("spindle/isa.compares", Rows.laid_spindle_isa_compares), ("spindle/isa.loads", Rows.laid_spindle_isa_loads), ("spindle/isa.stores", Rows.laid_spindle_isa_stores), ("spindle/isa.atomics", Rows.laid_spindle_isa_atomics)] [.widerDeep, .widerDeep, .widerDeep, .widerDeep, .widerDeep] true :=
  Program.laidByTextLater.sub seatTie1 ["spindle/isa.arithmetic", "spindle/isa.compares", "spindle/isa.loads", "spindle/isa.stores", "spindle/isa.atomics"] (by kernel_rfl) (by kernel_rfl)
theorem namesMerges_row_tie : Rows.namesMergesRow.laidByTextAt .later Tryz.pinned [.widerDeep, .widerDeep, .widerDeep, .widerDeep, .widerDeep] true :=
  OpenClaim.laidByTextAt_later rfl rfl tie noOwnUnsafe
theorem namesMergesUpto_row_tie : Rows.namesMergesUptoRow.laidByTextAt .later Tryz.pinned [.widerDeep, .widerDeep, .widerDeep, .widerDeep, .widerDeep] true :=
  OpenClaim.laidByTextAt_later rfl rfl tie noOwnUnsafe
end Go.Proofs.YtidigkielipghaaGreatDoor
