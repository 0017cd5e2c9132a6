/-
  NARROWER THAN 'FOR EVERY INPUT', by the rows' own cells (each row's printed sentence says how): NamesMerges: laid.
  DERIVED. THE GIVEN ROWS OF THIS SEAT. 1 by the template 'for every input the law returns true; each argument reads behind the call as it read before'; 0 by the template 'total and deterministic' (their statements: YtidigkielipghaaGreatDoorTotals.lean).
  GIVEN WITH THE SEED: the statements are not yours to turn. If you find one false, say at which input.
  Laid BY PROGRAM, IN A SANDBOX (cutbox-rows.mjs): the forced cells as the released guide's own fill.sh prints them over the translation 63a86d0838c34979… (all of the seat's roots in one cut). By AI agents, Wed Nov 11 2026. No macro, syntax, notation, axiom, sorry.
-/
import Derived.Test.YtidigkielipghaaGreatDoorChecked
import GoSem.Claim
import GoSem.ClaimJoined
import GoSem.ClaimMapViews
import Derived.JoinedTies
import Derived.KernelRfl
namespace Go.Proofs.YtidigkielipghaaGreatDoor
/- THE CELL 'sum', in the pinned program and in every row, IS THE sha256 OF THE DUMP (.gsa) THAT YtidigkielipghaaGreatDoorProg.lean LOADS. Nothing in Lean hashes anything: it is a label: what it is worth is what the hold of that sum in a sandbox is worth. -/
noncomputable def Tryz.pinned : Pinned := { name := "ytidigkielipghaagreatdoor", sum := "63a86d0838c349795960134025d36dced53f5ec8d40b6c6a0027cd1abe34d1b1", checked := Tryz.checked }
namespace Rows
def none {H : Type} : Left H := { results := [], args := [] }

/- WHAT THE LISTED PACKAGE-LEVEL VARIABLES READ AS WHEN THE CALL BEGINS. Each datum BY PROGRAM (the guide's laid-datum.mjs) off the statement by which the dump's own 'gosem.cut.vars' lays the variable. In a bare row this is a premise. The card (YtidigkielipghaaGreatDoorCards.lean) ties it to the program's text. -/
def laid_spindle_isa_arithmetic {H : Type} : DataW H := .agg [.lit (.int .i64 0), .lit (.int .i64 16), .lit (.int .i64 32), .lit (.int .i64 48), .lit (.int .i64 64), .lit (.int .i64 80), .lit (.int .i64 96), .lit (.int .i64 112), .lit (.int .i64 144), .lit (.int .i64 160), .lit (.int .i64 176), .lit (.int .i64 192)]
def laid_spindle_isa_compares {H : Type} : DataW H := .agg [.lit (.int .i64 16), .lit (.int .i64 32), .lit (.int .i64 48), .lit (.int .i64 64), .lit (.int .i64 80), .lit (.int .i64 96), .lit (.int .i64 112), .lit (.int .i64 160), .lit (.int .i64 176), .lit (.int .i64 192), .lit (.int .i64 208)]
def laid_spindle_isa_loads {H : Type} : DataW H := .agg [.lit (.int .i64 113), .lit (.int .i64 105), .lit (.int .i64 97), .lit (.int .i64 121), .lit (.int .i64 145), .lit (.int .i64 137), .lit (.int .i64 129)]
def laid_spindle_isa_stores {H : Type} : DataW H := .agg [.lit (.int .i64 114), .lit (.int .i64 106), .lit (.int .i64 98), .lit (.int .i64 122), .lit (.int .i64 115), .lit (.int .i64 107), .lit (.int .i64 99), .lit (.int .i64 123)]
def laid_spindle_isa_atomics {H : Type} : DataW H := .agg [.lit (.int .i64 0), .lit (.int .i64 64), .lit (.int .i64 80), .lit (.int .i64 160), .lit (.int .i64 1), .lit (.int .i64 65), .lit (.int .i64 81), .lit (.int .i64 161), .lit (.int .i64 225), .lit (.int .i64 241)]

/-- 'spindlelaw15.NamesMerges': WHATEVER THE INPUT: true; the input reads as it did. -/
def namesMergesSpec : ChangeSpec := { name := "namesMerges", fn := fun _ => fun
  | [d] => { results := [.lit (.bool true)], args := [d] }
  | _ => none }
def namesMergesRow : OpenClaim := { program := "ytidigkielipghaagreatdoor", sum := "63a86d0838c349795960134025d36dced53f5ec8d40b6c6a0027cd1abe34d1b1", func := "spindle/spindlelaw15.NamesMerges", spec := "namesMerges", unfollowed := true, recurses := true, named := ["spindle/isa.loads", "spindle/isa.stores", "spindle/isa.arithmetic", "spindle/isa.compares", "spindle/isa.atomics"], apart := false, laid := [("spindle/isa.arithmetic", laid_spindle_isa_arithmetic), ("spindle/isa.compares", laid_spindle_isa_compares), ("spindle/isa.loads", laid_spindle_isa_loads), ("spindle/isa.stores", laid_spindle_isa_stores), ("spindle/isa.atomics", laid_spindle_isa_atomics)] }
def NamesMergesSaid : Prop := namesMergesRow.holds Tryz.pinned (OpenSpec.ofChange namesMergesSpec)

/-- ITS FALSE NEIGHBOUR: 'it returns false'. Refute it at one input. -/
def namesMergesWrong : ChangeSpec := { name := "namesMerges", fn := fun _ => fun
  | [d] => { results := [.lit (.bool false)], args := [d] }
  | _ => none }
def NamesMergesWrongFalsely : Prop := namesMergesRow.holds Tryz.pinned (OpenSpec.ofChange namesMergesWrong)

/- THE SECOND FORM. 'bulk': how many values and letters a reading holds, each counted each time it is reached (what is shared counts as often as it is met; a slice's spare places count too). A statement '..UptoSaid' is the law's where the arguments, and the package variables that the reading takes, are together of bulk at most 1048576: NARROWER than '..Said'. Prove '..Said' where nothing that the law and all that it calls make is longer than what came in: it says more and counts as full. Else prove '..UptoSaid'. A law counts once. -/
mutual
def uptoBulk {H : Type} : DataW H → Nat
  | .lit (.string bytes) => bytes.length + 1
  | .lit _ => 1
  | .nil => 1
  | .ptr d => uptoBulk d + 1
  | .slice elems spare => uptoBulkAll elems + uptoBulkAll spare + 1
  | .agg parts => uptoBulkAll parts + 1
  | .iface _ d => uptoBulk d + 1
  | .map entries => uptoBulkEntries entries + 1
  | .held _ => 1
def uptoBulkAll {H : Type} : List (DataW H) → Nat
  | [] => 0
  | d :: r => uptoBulk d + uptoBulkAll r
def uptoBulkEntries {H : Type} : List (Lit × DataW H) → Nat
  | [] => 0
  | x :: r => uptoBulkEntry x + uptoBulkEntries r
def uptoBulkEntry {H : Type} : Lit × DataW H → Nat
  | (.string bytes, d) => bytes.length + uptoBulk d + 1
  | (_, d) => uptoBulk d + 1
 end
def uptoSmall : (H : Type) → List (DataW H) → Bool := fun _ ds => decide (uptoBulkAll ds ≤ 1048576)
def OpenSpec.upto (s : _root_.Go.ChangeSpec) : _root_.Go.OpenSpec := { _root_.Go.OpenSpec.ofChange s with cond := some uptoSmall }

/-- 'spindlelaw15.NamesMerges', WHERE WHAT IT READS IS OF BULK AT MOST 1048576: true; the input reads as it did. -/
def namesMergesUptoRow : OpenClaim := { program := "ytidigkielipghaagreatdoor", sum := "63a86d0838c349795960134025d36dced53f5ec8d40b6c6a0027cd1abe34d1b1", func := "spindle/spindlelaw15.NamesMerges", spec := "namesMerges", unfollowed := true, recurses := true, named := ["spindle/isa.loads", "spindle/isa.stores", "spindle/isa.arithmetic", "spindle/isa.compares", "spindle/isa.atomics"], apart := false, laid := [("spindle/isa.arithmetic", laid_spindle_isa_arithmetic), ("spindle/isa.compares", laid_spindle_isa_compares), ("spindle/isa.loads", laid_spindle_isa_loads), ("spindle/isa.stores", laid_spindle_isa_stores), ("spindle/isa.atomics", laid_spindle_isa_atomics)], narrowed := true }
def NamesMergesUptoSaid : Prop := namesMergesUptoRow.holds Tryz.pinned (OpenSpec.upto namesMergesSpec)

end Rows
end Go.Proofs.YtidigkielipghaaGreatDoor
