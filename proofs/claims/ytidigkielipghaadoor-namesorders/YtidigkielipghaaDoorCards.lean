/-
  DERIVED. GIVEN WITH THE SEED: THE CARDS: each row of YtidigkielipghaaDoorRows.lean that lists a variable, with what it lists TIED to the program's text (the seventh form; the later family's looks); each row that meets fmt, with fmt's text TOLD by the authors' own Lean function (tested against real Go, not proved from fmt's source: count such statements apart). THE CARD IS WHAT COUNTS. Prove the row's statement (the work); the ties are given (YtidigkielipghaaDoorTie.lean); close each card by the builder's one call (the guide's Derived/Test/ToyasCard.lean, 'card_holds'). Laid BY PROGRAM, IN A SANDBOX (cutbox-door.mjs). By AI agents, Wed Nov 11 2026. No macro, syntax, notation, axiom, sorry.
-/
import Derived.Test.YtidigkielipghaaDoorRows
import GoSem.ClaimSeven
namespace Go.Proofs.YtidigkielipghaaDoor
namespace Rows

/-- THE TIED CARD OF 'spindlelaw15.NamesOrders'. -/
def namesOrdersCard : Claim7 := { stood := { row := namesOrdersRow, standIns := [], harness := (true, "f331f66370216e3adde2e1eba17247851517c094b420de43ca99706ca24afb3a"), looks := false }, kinds := [], alts := [], laidByText := true, laidKinds := [.widerDeep, .widerDeep, .widerDeep, .widerDeep, .widerDeep], laidTests := true, laidLooks := .later }
def NamesOrdersCardSaid : Prop := Claim7.holds Tryd.pinned (.plain (OpenSpec.ofChange namesOrdersSpec)) namesOrdersCard

/-- THE TIED CARD OF 'spindlelaw15.NamesBind'. -/
def namesBindCard : Claim7 := { stood := { row := namesBindRow, standIns := [], harness := (true, "f331f66370216e3adde2e1eba17247851517c094b420de43ca99706ca24afb3a"), looks := false }, kinds := [], alts := [], laidByText := true, laidKinds := [.widerDeep, .widerDeep, .widerDeep, .widerDeep, .widerDeep], laidTests := true, laidLooks := .later }
def NamesBindCardSaid : Prop := Claim7.holds Tryd.pinned (.plain (OpenSpec.ofChange namesBindSpec)) namesBindCard

/-- THE SECOND FORM's CARD OF 'spindlelaw15.NamesOrders'. -/
def namesOrdersUptoCard : Claim7 := { stood := { row := namesOrdersUptoRow, standIns := [], harness := (true, "f331f66370216e3adde2e1eba17247851517c094b420de43ca99706ca24afb3a"), looks := false }, kinds := [], alts := [], laidByText := true, laidKinds := [.widerDeep, .widerDeep, .widerDeep, .widerDeep, .widerDeep], laidTests := true, laidLooks := .later }
def NamesOrdersUptoCardSaid : Prop := Claim7.holds Tryd.pinned (.plain (OpenSpec.upto namesOrdersSpec)) namesOrdersUptoCard

/-- THE SECOND FORM's CARD OF 'spindlelaw15.NamesBind'. -/
def namesBindUptoCard : Claim7 := { stood := { row := namesBindUptoRow, standIns := [], harness := (true, "f331f66370216e3adde2e1eba17247851517c094b420de43ca99706ca24afb3a"), looks := false }, kinds := [], alts := [], laidByText := true, laidKinds := [.widerDeep, .widerDeep, .widerDeep, .widerDeep, .widerDeep], laidTests := true, laidLooks := .later }
def NamesBindUptoCardSaid : Prop := Claim7.holds Tryd.pinned (.plain (OpenSpec.upto namesBindSpec)) namesBindUptoCard
end Rows
end Go.Proofs.YtidigkielipghaaDoor
