/-
  NARROWER THAN 'FOR EVERY INPUT', by the rows' own cells (each row's printed sentence says how): CodeEncodes: laid · CodeDecodes: laid · CodeBack: laid · CodeForth: laid · CodeJoins: laid · IsaRow: laid.
  DERIVED. THE GIVEN ROWS OF THIS SEAT. 6 by the template 'for every input the law returns true; each argument reads behind the call as it read before'; 0 by the template 'total and deterministic' (their statements: YtbjckcenlfgcaabDoorTotals.lean).
  GIVEN WITH THE SEED: the statements are not yours to turn. If you find one false, say at which input.
  Laid BY PROGRAM, IN A SANDBOX (cutbox-rows.mjs): the forced cells as the released guide's own fill.sh prints them over the translation 15144b7e00906892… (all of the seat's roots in one cut). By AI agents, Wed Nov 11 2026. No macro, syntax, notation, axiom, sorry.
-/
import Derived.Test.YtbjckcenlfgcaabDoorChecked
import GoSem.Claim
import GoSem.ClaimJoined
import GoSem.ClaimMapViews
import Derived.JoinedTies
import Derived.KernelRfl
namespace Go.Proofs.YtbjckcenlfgcaabDoor
/- THE CELL 'sum', in the pinned program and in every row, IS THE sha256 OF THE DUMP (.gsa) THAT YtbjckcenlfgcaabDoorProg.lean LOADS. Nothing in Lean hashes anything: it is a label: what it is worth is what the hold of that sum in a sandbox is worth. -/
noncomputable def Tryd.pinned : Pinned := { name := "ytbjckcenlfgcaabdoor", sum := "15144b7e009068929fb9ee3d2b608dd441c734f517ad957f5f248671936968e4", checked := Tryd.checked }
namespace Rows
def none {H : Type} : Left H := { results := [], args := [] }

/- WHAT THE LISTED PACKAGE-LEVEL VARIABLES READ AS WHEN THE CALL BEGINS. Each datum BY PROGRAM (the guide's laid-datum.mjs) off the statement by which the dump's own 'gosem.cut.vars' lays the variable. In a bare row this is a premise. The card (YtbjckcenlfgcaabDoorCards.lean) ties it to the program's text. -/
def laid_spindle_isa_arithmetic {H : Type} : DataW H := .agg [.lit (.int .i64 0), .lit (.int .i64 16), .lit (.int .i64 32), .lit (.int .i64 48), .lit (.int .i64 64), .lit (.int .i64 80), .lit (.int .i64 96), .lit (.int .i64 112), .lit (.int .i64 144), .lit (.int .i64 160), .lit (.int .i64 176), .lit (.int .i64 192)]
def laid_spindle_isa_compares {H : Type} : DataW H := .agg [.lit (.int .i64 16), .lit (.int .i64 32), .lit (.int .i64 48), .lit (.int .i64 64), .lit (.int .i64 80), .lit (.int .i64 96), .lit (.int .i64 112), .lit (.int .i64 160), .lit (.int .i64 176), .lit (.int .i64 192), .lit (.int .i64 208)]
def laid_spindle_isa_loads {H : Type} : DataW H := .agg [.lit (.int .i64 113), .lit (.int .i64 105), .lit (.int .i64 97), .lit (.int .i64 121), .lit (.int .i64 145), .lit (.int .i64 137), .lit (.int .i64 129)]
def laid_spindle_isa_stores {H : Type} : DataW H := .agg [.lit (.int .i64 114), .lit (.int .i64 106), .lit (.int .i64 98), .lit (.int .i64 122), .lit (.int .i64 115), .lit (.int .i64 107), .lit (.int .i64 99), .lit (.int .i64 123)]
def laid_spindle_isa_atomics {H : Type} : DataW H := .agg [.lit (.int .i64 0), .lit (.int .i64 64), .lit (.int .i64 80), .lit (.int .i64 160), .lit (.int .i64 1), .lit (.int .i64 65), .lit (.int .i64 81), .lit (.int .i64 161), .lit (.int .i64 225), .lit (.int .i64 241)]

/-- 'spindlelaw3.CodeEncodes': WHATEVER THE INPUT: true; the input reads as it did. -/
def codeEncodesSpec : ChangeSpec := { name := "codeEncodes", fn := fun _ => fun
  | [d] => { results := [.lit (.bool true)], args := [d] }
  | _ => none }
def codeEncodesRow : OpenClaim := { program := "ytbjckcenlfgcaabdoor", sum := "15144b7e009068929fb9ee3d2b608dd441c734f517ad957f5f248671936968e4", func := "spindle/spindlelaw3.CodeEncodes", spec := "codeEncodes", named := ["spindle/isa.loads", "spindle/isa.stores", "spindle/isa.arithmetic", "spindle/isa.compares", "spindle/isa.atomics"], apart := false, laid := [("spindle/isa.arithmetic", laid_spindle_isa_arithmetic), ("spindle/isa.compares", laid_spindle_isa_compares), ("spindle/isa.loads", laid_spindle_isa_loads), ("spindle/isa.stores", laid_spindle_isa_stores), ("spindle/isa.atomics", laid_spindle_isa_atomics)] }
def CodeEncodesSaid : Prop := codeEncodesRow.holds Tryd.pinned (OpenSpec.ofChange codeEncodesSpec)

/-- ITS FALSE NEIGHBOUR: 'it returns false'. Refute it at one input. -/
def codeEncodesWrong : ChangeSpec := { name := "codeEncodes", fn := fun _ => fun
  | [d] => { results := [.lit (.bool false)], args := [d] }
  | _ => none }
def CodeEncodesWrongFalsely : Prop := codeEncodesRow.holds Tryd.pinned (OpenSpec.ofChange codeEncodesWrong)

/-- 'spindlelaw3.CodeDecodes': WHATEVER THE INPUT: true; the input reads as it did. -/
def codeDecodesSpec : ChangeSpec := { name := "codeDecodes", fn := fun _ => fun
  | [d] => { results := [.lit (.bool true)], args := [d] }
  | _ => none }
def codeDecodesRow : OpenClaim := { program := "ytbjckcenlfgcaabdoor", sum := "15144b7e009068929fb9ee3d2b608dd441c734f517ad957f5f248671936968e4", func := "spindle/spindlelaw3.CodeDecodes", spec := "codeDecodes", named := ["spindle/isa.loads", "spindle/isa.stores", "spindle/isa.arithmetic", "spindle/isa.compares", "spindle/isa.atomics"], apart := false, laid := [("spindle/isa.arithmetic", laid_spindle_isa_arithmetic), ("spindle/isa.compares", laid_spindle_isa_compares), ("spindle/isa.loads", laid_spindle_isa_loads), ("spindle/isa.stores", laid_spindle_isa_stores), ("spindle/isa.atomics", laid_spindle_isa_atomics)] }
def CodeDecodesSaid : Prop := codeDecodesRow.holds Tryd.pinned (OpenSpec.ofChange codeDecodesSpec)

/-- ITS FALSE NEIGHBOUR: 'it returns false'. Refute it at one input. -/
def codeDecodesWrong : ChangeSpec := { name := "codeDecodes", fn := fun _ => fun
  | [d] => { results := [.lit (.bool false)], args := [d] }
  | _ => none }
def CodeDecodesWrongFalsely : Prop := codeDecodesRow.holds Tryd.pinned (OpenSpec.ofChange codeDecodesWrong)

/-- 'spindlelaw3.CodeBack': WHATEVER THE INPUT: true; the input reads as it did. -/
def codeBackSpec : ChangeSpec := { name := "codeBack", fn := fun _ => fun
  | [d] => { results := [.lit (.bool true)], args := [d] }
  | _ => none }
def codeBackRow : OpenClaim := { program := "ytbjckcenlfgcaabdoor", sum := "15144b7e009068929fb9ee3d2b608dd441c734f517ad957f5f248671936968e4", func := "spindle/spindlelaw3.CodeBack", spec := "codeBack", named := ["spindle/isa.loads", "spindle/isa.stores", "spindle/isa.arithmetic", "spindle/isa.compares", "spindle/isa.atomics"], apart := false, laid := [("spindle/isa.arithmetic", laid_spindle_isa_arithmetic), ("spindle/isa.compares", laid_spindle_isa_compares), ("spindle/isa.loads", laid_spindle_isa_loads), ("spindle/isa.stores", laid_spindle_isa_stores), ("spindle/isa.atomics", laid_spindle_isa_atomics)] }
def CodeBackSaid : Prop := codeBackRow.holds Tryd.pinned (OpenSpec.ofChange codeBackSpec)

/-- ITS FALSE NEIGHBOUR: 'it returns false'. Refute it at one input. -/
def codeBackWrong : ChangeSpec := { name := "codeBack", fn := fun _ => fun
  | [d] => { results := [.lit (.bool false)], args := [d] }
  | _ => none }
def CodeBackWrongFalsely : Prop := codeBackRow.holds Tryd.pinned (OpenSpec.ofChange codeBackWrong)

/-- 'spindlelaw3.CodeForth': WHATEVER THE INPUT: true; the input reads as it did. -/
def codeForthSpec : ChangeSpec := { name := "codeForth", fn := fun _ => fun
  | [d1, d2] => { results := [.lit (.bool true)], args := [d1, d2] }
  | _ => none }
def codeForthRow : OpenClaim := { program := "ytbjckcenlfgcaabdoor", sum := "15144b7e009068929fb9ee3d2b608dd441c734f517ad957f5f248671936968e4", func := "spindle/spindlelaw3.CodeForth", spec := "codeForth", named := ["spindle/isa.loads", "spindle/isa.stores", "spindle/isa.arithmetic", "spindle/isa.compares", "spindle/isa.atomics"], apart := false, laid := [("spindle/isa.arithmetic", laid_spindle_isa_arithmetic), ("spindle/isa.compares", laid_spindle_isa_compares), ("spindle/isa.loads", laid_spindle_isa_loads), ("spindle/isa.stores", laid_spindle_isa_stores), ("spindle/isa.atomics", laid_spindle_isa_atomics)] }
def CodeForthSaid : Prop := codeForthRow.holds Tryd.pinned (OpenSpec.ofChange codeForthSpec)

/-- ITS FALSE NEIGHBOUR: 'it returns false'. Refute it at one input. -/
def codeForthWrong : ChangeSpec := { name := "codeForth", fn := fun _ => fun
  | [d1, d2] => { results := [.lit (.bool false)], args := [d1, d2] }
  | _ => none }
def CodeForthWrongFalsely : Prop := codeForthRow.holds Tryd.pinned (OpenSpec.ofChange codeForthWrong)

/-- 'spindlelaw3.CodeJoins': WHATEVER THE INPUT: true; the input reads as it did. -/
def codeJoinsSpec : ChangeSpec := { name := "codeJoins", fn := fun _ => fun
  | [d1, d2, d3] => { results := [.lit (.bool true)], args := [d1, d2, d3] }
  | _ => none }
def codeJoinsRow : OpenClaim := { program := "ytbjckcenlfgcaabdoor", sum := "15144b7e009068929fb9ee3d2b608dd441c734f517ad957f5f248671936968e4", func := "spindle/spindlelaw3.CodeJoins", spec := "codeJoins", named := ["spindle/isa.loads", "spindle/isa.stores", "spindle/isa.arithmetic", "spindle/isa.compares", "spindle/isa.atomics"], apart := false, laid := [("spindle/isa.arithmetic", laid_spindle_isa_arithmetic), ("spindle/isa.compares", laid_spindle_isa_compares), ("spindle/isa.loads", laid_spindle_isa_loads), ("spindle/isa.stores", laid_spindle_isa_stores), ("spindle/isa.atomics", laid_spindle_isa_atomics)] }
def CodeJoinsSaid : Prop := codeJoinsRow.holds Tryd.pinned (OpenSpec.ofChange codeJoinsSpec)

/-- ITS FALSE NEIGHBOUR: 'it returns false'. Refute it at one input. -/
def codeJoinsWrong : ChangeSpec := { name := "codeJoins", fn := fun _ => fun
  | [d1, d2, d3] => { results := [.lit (.bool false)], args := [d1, d2, d3] }
  | _ => none }
def CodeJoinsWrongFalsely : Prop := codeJoinsRow.holds Tryd.pinned (OpenSpec.ofChange codeJoinsWrong)

/-- 'spindlelaw2.IsaRow': WHATEVER THE INPUT: true; the input reads as it did. -/
def isaRowSpec : ChangeSpec := { name := "isaRow", fn := fun _ => fun
  | [d1, d2, d3] => { results := [.lit (.bool true)], args := [d1, d2, d3] }
  | _ => none }
def isaRowRow : OpenClaim := { program := "ytbjckcenlfgcaabdoor", sum := "15144b7e009068929fb9ee3d2b608dd441c734f517ad957f5f248671936968e4", func := "spindle/spindlelaw2.IsaRow", spec := "isaRow", recurses := true, named := ["spindle/isa.loads", "spindle/isa.stores", "spindle/isa.arithmetic", "spindle/isa.compares", "spindle/isa.atomics"], apart := false, laid := [("spindle/isa.arithmetic", laid_spindle_isa_arithmetic), ("spindle/isa.compares", laid_spindle_isa_compares), ("spindle/isa.loads", laid_spindle_isa_loads), ("spindle/isa.stores", laid_spindle_isa_stores), ("spindle/isa.atomics", laid_spindle_isa_atomics)] }
def IsaRowSaid : Prop := isaRowRow.holds Tryd.pinned (OpenSpec.ofChange isaRowSpec)

/-- ITS FALSE NEIGHBOUR: 'it returns false'. Refute it at one input. -/
def isaRowWrong : ChangeSpec := { name := "isaRow", fn := fun _ => fun
  | [d1, d2, d3] => { results := [.lit (.bool false)], args := [d1, d2, d3] }
  | _ => none }
def IsaRowWrongFalsely : Prop := isaRowRow.holds Tryd.pinned (OpenSpec.ofChange isaRowWrong)

/- THE SECOND FORM. 'bulk': how many values and letters a reading holds, each counted each time it is reached (what is shared counts as often as it is met; a slice's spare places count too). A statement '..UptoSaid' is the law's where the arguments, and the package variables that the reading takes, are together of bulk at most 1048576: NARROWER than '..Said'. Prove '..Said' where nothing that the law and all that it calls make is longer than what came in: it says more and counts as full. Else prove '..UptoSaid'. A law counts once. -/
mutual
def uptoBulk {H : Type} : DataW H → Nat
  | .lit (.string bytes) => bytes.length + 1
  | .lit _ => 1
  | .nil => 1
  | .ptr d => uptoBulk d + 1
  | .slice elems spare => uptoBulkAll elems + uptoBulkAll spare + 1
  | .agg parts => uptoBulkAll parts + 1
  | .iface _ d => uptoBulk d + 1
  | .map entries => uptoBulkEntries entries + 1
  | .held _ => 1
def uptoBulkAll {H : Type} : List (DataW H) → Nat
  | [] => 0
  | d :: r => uptoBulk d + uptoBulkAll r
def uptoBulkEntries {H : Type} : List (Lit × DataW H) → Nat
  | [] => 0
  | x :: r => uptoBulkEntry x + uptoBulkEntries r
def uptoBulkEntry {H : Type} : Lit × DataW H → Nat
  | (.string bytes, d) => bytes.length + uptoBulk d + 1
  | (_, d) => uptoBulk d + 1
 end
def uptoSmall : (H : Type) → List (DataW H) → Bool := fun _ ds => decide (uptoBulkAll ds ≤ 1048576)
def OpenSpec.upto (s : _root_.Go.ChangeSpec) : _root_.Go.OpenSpec := { _root_.Go.OpenSpec.ofChange s with cond := some uptoSmall }

/-- 'spindlelaw3.CodeEncodes', WHERE WHAT IT READS IS OF BULK AT MOST 1048576: true; the input reads as it did. -/
def codeEncodesUptoRow : OpenClaim := { program := "ytbjckcenlfgcaabdoor", sum := "15144b7e009068929fb9ee3d2b608dd441c734f517ad957f5f248671936968e4", func := "spindle/spindlelaw3.CodeEncodes", spec := "codeEncodes", named := ["spindle/isa.loads", "spindle/isa.stores", "spindle/isa.arithmetic", "spindle/isa.compares", "spindle/isa.atomics"], apart := false, laid := [("spindle/isa.arithmetic", laid_spindle_isa_arithmetic), ("spindle/isa.compares", laid_spindle_isa_compares), ("spindle/isa.loads", laid_spindle_isa_loads), ("spindle/isa.stores", laid_spindle_isa_stores), ("spindle/isa.atomics", laid_spindle_isa_atomics)], narrowed := true }
def CodeEncodesUptoSaid : Prop := codeEncodesUptoRow.holds Tryd.pinned (OpenSpec.upto codeEncodesSpec)

/-- 'spindlelaw3.CodeDecodes', WHERE WHAT IT READS IS OF BULK AT MOST 1048576: true; the input reads as it did. -/
def codeDecodesUptoRow : OpenClaim := { program := "ytbjckcenlfgcaabdoor", sum := "15144b7e009068929fb9ee3d2b608dd441c734f517ad957f5f248671936968e4", func := "spindle/spindlelaw3.CodeDecodes", spec := "codeDecodes", named := ["spindle/isa.loads", "spindle/isa.stores", "spindle/isa.arithmetic", "spindle/isa.compares", "spindle/isa.atomics"], apart := false, laid := [("spindle/isa.arithmetic", laid_spindle_isa_arithmetic), ("spindle/isa.compares", laid_spindle_isa_compares), ("spindle/isa.loads", laid_spindle_isa_loads), ("spindle/isa.stores", laid_spindle_isa_stores), ("spindle/isa.atomics", laid_spindle_isa_atomics)], narrowed := true }
def CodeDecodesUptoSaid : Prop := codeDecodesUptoRow.holds Tryd.pinned (OpenSpec.upto codeDecodesSpec)

/-- 'spindlelaw3.CodeBack', WHERE WHAT IT READS IS OF BULK AT MOST 1048576: true; the input reads as it did. -/
def codeBackUptoRow : OpenClaim := { program := "ytbjckcenlfgcaabdoor", sum := "15144b7e009068929fb9ee3d2b608dd441c734f517ad957f5f248671936968e4", func := "spindle/spindlelaw3.CodeBack", spec := "codeBack", named := ["spindle/isa.loads", "spindle/isa.stores", "spindle/isa.arithmetic", "spindle/isa.compares", "spindle/isa.atomics"], apart := false, laid := [("spindle/isa.arithmetic", laid_spindle_isa_arithmetic), ("spindle/isa.compares", laid_spindle_isa_compares), ("spindle/isa.loads", laid_spindle_isa_loads), ("spindle/isa.stores", laid_spindle_isa_stores), ("spindle/isa.atomics", laid_spindle_isa_atomics)], narrowed := true }
def CodeBackUptoSaid : Prop := codeBackUptoRow.holds Tryd.pinned (OpenSpec.upto codeBackSpec)

/-- 'spindlelaw3.CodeForth', WHERE WHAT IT READS IS OF BULK AT MOST 1048576: true; the input reads as it did. -/
def codeForthUptoRow : OpenClaim := { program := "ytbjckcenlfgcaabdoor", sum := "15144b7e009068929fb9ee3d2b608dd441c734f517ad957f5f248671936968e4", func := "spindle/spindlelaw3.CodeForth", spec := "codeForth", named := ["spindle/isa.loads", "spindle/isa.stores", "spindle/isa.arithmetic", "spindle/isa.compares", "spindle/isa.atomics"], apart := false, laid := [("spindle/isa.arithmetic", laid_spindle_isa_arithmetic), ("spindle/isa.compares", laid_spindle_isa_compares), ("spindle/isa.loads", laid_spindle_isa_loads), ("spindle/isa.stores", laid_spindle_isa_stores), ("spindle/isa.atomics", laid_spindle_isa_atomics)], narrowed := true }
def CodeForthUptoSaid : Prop := codeForthUptoRow.holds Tryd.pinned (OpenSpec.upto codeForthSpec)

/-- 'spindlelaw3.CodeJoins', WHERE WHAT IT READS IS OF BULK AT MOST 1048576: true; the input reads as it did. -/
def codeJoinsUptoRow : OpenClaim := { program := "ytbjckcenlfgcaabdoor", sum := "15144b7e009068929fb9ee3d2b608dd441c734f517ad957f5f248671936968e4", func := "spindle/spindlelaw3.CodeJoins", spec := "codeJoins", named := ["spindle/isa.loads", "spindle/isa.stores", "spindle/isa.arithmetic", "spindle/isa.compares", "spindle/isa.atomics"], apart := false, laid := [("spindle/isa.arithmetic", laid_spindle_isa_arithmetic), ("spindle/isa.compares", laid_spindle_isa_compares), ("spindle/isa.loads", laid_spindle_isa_loads), ("spindle/isa.stores", laid_spindle_isa_stores), ("spindle/isa.atomics", laid_spindle_isa_atomics)], narrowed := true }
def CodeJoinsUptoSaid : Prop := codeJoinsUptoRow.holds Tryd.pinned (OpenSpec.upto codeJoinsSpec)

/-- 'spindlelaw2.IsaRow', WHERE WHAT IT READS IS OF BULK AT MOST 1048576: true; the input reads as it did. -/
def isaRowUptoRow : OpenClaim := { program := "ytbjckcenlfgcaabdoor", sum := "15144b7e009068929fb9ee3d2b608dd441c734f517ad957f5f248671936968e4", func := "spindle/spindlelaw2.IsaRow", spec := "isaRow", recurses := true, named := ["spindle/isa.loads", "spindle/isa.stores", "spindle/isa.arithmetic", "spindle/isa.compares", "spindle/isa.atomics"], apart := false, laid := [("spindle/isa.arithmetic", laid_spindle_isa_arithmetic), ("spindle/isa.compares", laid_spindle_isa_compares), ("spindle/isa.loads", laid_spindle_isa_loads), ("spindle/isa.stores", laid_spindle_isa_stores), ("spindle/isa.atomics", laid_spindle_isa_atomics)], narrowed := true }
def IsaRowUptoSaid : Prop := isaRowUptoRow.holds Tryd.pinned (OpenSpec.upto isaRowSpec)

end Rows
end Go.Proofs.YtbjckcenlfgcaabDoor
