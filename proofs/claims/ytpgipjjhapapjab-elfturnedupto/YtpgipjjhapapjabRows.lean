/-
  No cell of these rows narrows 'for every input' (looked for: loops, veiled, ifaces, maps, wideKeys, modest, calm, conditions, laid).
  DERIVED. THE GIVEN ROWS OF THIS SEAT. 4 by the template 'for every input the law returns true; each argument reads behind the call as it read before'; 0 by the template 'total and deterministic' (their statements: YtpgipjjhapapjabTotals.lean).
  GIVEN WITH THE SEED: the statements are not yours to turn. If you find one false, say at which input.
  Laid BY PROGRAM, IN A SANDBOX (cutbox-rows.mjs): the forced cells as the released guide's own fill.sh prints them over the translation d0ac768b61170ff8… (all of the seat's roots in one cut). By AI agents, Wed Nov 11 2026. No macro, syntax, notation, axiom, sorry.
-/
import Derived.Test.YtpgipjjhapapjabChecked
import GoSem.Claim
import GoSem.ClaimJoined
import GoSem.ClaimMapViews
import Derived.JoinedTies
import Derived.KernelRfl
namespace Go.Proofs.Ytpgipjjhapapjab
/- THE CELL 'sum', in the pinned program and in every row, IS THE sha256 OF THE DUMP (.gsa) THAT YtpgipjjhapapjabProg.lean LOADS. Nothing in Lean hashes anything: it is a label: what it is worth is what the hold of that sum in a sandbox is worth. -/
noncomputable def Try.pinned : Pinned := { name := "ytpgipjjhapapjab", sum := "d0ac768b61170ff854263071737d250787df16ac037d32bf226114f832df1a57", checked := Try.checked }
namespace Rows
def none {H : Type} : Left H := { results := [], args := [] }

/-- 'spindlelaw9.ElfBack': WHATEVER THE INPUT: true; the input reads as it did. -/
def elfBackSpec : ChangeSpec := { name := "elfBack", fn := fun _ => fun
  | [d] => { results := [.lit (.bool true)], args := [d] }
  | _ => none }
def elfBackRow : OpenClaim := { program := "ytpgipjjhapapjab", sum := "d0ac768b61170ff854263071737d250787df16ac037d32bf226114f832df1a57", func := "spindle/spindlelaw9.ElfBack", spec := "elfBack", inPlace := ["internal/bytealg.IndexByte", "internal/bytealg.IndexByteString"], unfollowed := true, recurses := true, apart := false }
def ElfBackSaid : Prop := elfBackRow.holds Try.pinned (OpenSpec.ofChange elfBackSpec)

/-- ITS FALSE NEIGHBOUR: 'it returns false'. Refute it at one input. -/
def elfBackWrong : ChangeSpec := { name := "elfBack", fn := fun _ => fun
  | [d] => { results := [.lit (.bool false)], args := [d] }
  | _ => none }
def ElfBackWrongFalsely : Prop := elfBackRow.holds Try.pinned (OpenSpec.ofChange elfBackWrong)

/-- 'spindlelaw9.ElfForm': WHATEVER THE INPUT: true; the input reads as it did. -/
def elfFormSpec : ChangeSpec := { name := "elfForm", fn := fun _ => fun
  | [d] => { results := [.lit (.bool true)], args := [d] }
  | _ => none }
def elfFormRow : OpenClaim := { program := "ytpgipjjhapapjab", sum := "d0ac768b61170ff854263071737d250787df16ac037d32bf226114f832df1a57", func := "spindle/spindlelaw9.ElfForm", spec := "elfForm", inPlace := ["internal/bytealg.IndexByte", "internal/bytealg.IndexByteString"], unfollowed := true, recurses := true, apart := false }
def ElfFormSaid : Prop := elfFormRow.holds Try.pinned (OpenSpec.ofChange elfFormSpec)

/-- ITS FALSE NEIGHBOUR: 'it returns false'. Refute it at one input. -/
def elfFormWrong : ChangeSpec := { name := "elfForm", fn := fun _ => fun
  | [d] => { results := [.lit (.bool false)], args := [d] }
  | _ => none }
def ElfFormWrongFalsely : Prop := elfFormRow.holds Try.pinned (OpenSpec.ofChange elfFormWrong)

/-- 'spindlelaw9.ElfTurned': WHATEVER THE INPUT: true; the input reads as it did. -/
def elfTurnedSpec : ChangeSpec := { name := "elfTurned", fn := fun _ => fun
  | [d1, d2, d3] => { results := [.lit (.bool true)], args := [d1, d2, d3] }
  | _ => none }
def elfTurnedRow : OpenClaim := { program := "ytpgipjjhapapjab", sum := "d0ac768b61170ff854263071737d250787df16ac037d32bf226114f832df1a57", func := "spindle/spindlelaw9.ElfTurned", spec := "elfTurned", inPlace := ["internal/bytealg.IndexByte", "internal/bytealg.IndexByteString"], unfollowed := true, recurses := true, apart := false }
def ElfTurnedSaid : Prop := elfTurnedRow.holds Try.pinned (OpenSpec.ofChange elfTurnedSpec)

/-- ITS FALSE NEIGHBOUR: 'it returns false'. Refute it at one input. -/
def elfTurnedWrong : ChangeSpec := { name := "elfTurned", fn := fun _ => fun
  | [d1, d2, d3] => { results := [.lit (.bool false)], args := [d1, d2, d3] }
  | _ => none }
def ElfTurnedWrongFalsely : Prop := elfTurnedRow.holds Try.pinned (OpenSpec.ofChange elfTurnedWrong)

/-- 'spindlelaw9.ElfCut': WHATEVER THE INPUT: true; the input reads as it did. -/
def elfCutSpec : ChangeSpec := { name := "elfCut", fn := fun _ => fun
  | [d1, d2, d3] => { results := [.lit (.bool true)], args := [d1, d2, d3] }
  | _ => none }
def elfCutRow : OpenClaim := { program := "ytpgipjjhapapjab", sum := "d0ac768b61170ff854263071737d250787df16ac037d32bf226114f832df1a57", func := "spindle/spindlelaw9.ElfCut", spec := "elfCut", inPlace := ["internal/bytealg.IndexByte", "internal/bytealg.IndexByteString"], unfollowed := true, recurses := true, apart := false }
def ElfCutSaid : Prop := elfCutRow.holds Try.pinned (OpenSpec.ofChange elfCutSpec)

/-- ITS FALSE NEIGHBOUR: 'it returns false'. Refute it at one input. -/
def elfCutWrong : ChangeSpec := { name := "elfCut", fn := fun _ => fun
  | [d1, d2, d3] => { results := [.lit (.bool false)], args := [d1, d2, d3] }
  | _ => none }
def ElfCutWrongFalsely : Prop := elfCutRow.holds Try.pinned (OpenSpec.ofChange elfCutWrong)

/- THE SECOND FORM. 'bulk': how many values and letters a reading holds, each counted each time it is reached (what is shared counts as often as it is met; a slice's spare places count too). A statement '..UptoSaid' is the law's where the arguments, and the package variables that the reading takes, are together of bulk at most 1048576: NARROWER than '..Said'. Prove '..Said' where nothing that the law and all that it calls make is longer than what came in: it says more and counts as full. Else prove '..UptoSaid'. A law counts once. -/
mutual
def uptoBulk {H : Type} : DataW H → Nat
  | .lit (.string bytes) => bytes.length + 1
  | .lit _ => 1
  | .nil => 1
  | .ptr d => uptoBulk d + 1
  | .slice elems spare => uptoBulkAll elems + uptoBulkAll spare + 1
  | .agg parts => uptoBulkAll parts + 1
  | .iface _ d => uptoBulk d + 1
  | .map entries => uptoBulkEntries entries + 1
  | .held _ => 1
def uptoBulkAll {H : Type} : List (DataW H) → Nat
  | [] => 0
  | d :: r => uptoBulk d + uptoBulkAll r
def uptoBulkEntries {H : Type} : List (Lit × DataW H) → Nat
  | [] => 0
  | x :: r => uptoBulkEntry x + uptoBulkEntries r
def uptoBulkEntry {H : Type} : Lit × DataW H → Nat
  | (.string bytes, d) => bytes.length + uptoBulk d + 1
  | (_, d) => uptoBulk d + 1
 end
def uptoSmall : (H : Type) → List (DataW H) → Bool := fun _ ds => decide (uptoBulkAll ds ≤ 1048576)
def OpenSpec.upto (s : _root_.Go.ChangeSpec) : _root_.Go.OpenSpec := { _root_.Go.OpenSpec.ofChange s with cond := some uptoSmall }

/-- 'spindlelaw9.ElfBack', WHERE WHAT IT READS IS OF BULK AT MOST 1048576: true; the input reads as it did. -/
def elfBackUptoRow : OpenClaim := { program := "ytpgipjjhapapjab", sum := "d0ac768b61170ff854263071737d250787df16ac037d32bf226114f832df1a57", func := "spindle/spindlelaw9.ElfBack", spec := "elfBack", inPlace := ["internal/bytealg.IndexByte", "internal/bytealg.IndexByteString"], unfollowed := true, recurses := true, apart := false, narrowed := true }
def ElfBackUptoSaid : Prop := elfBackUptoRow.holds Try.pinned (OpenSpec.upto elfBackSpec)

/-- 'spindlelaw9.ElfForm', WHERE WHAT IT READS IS OF BULK AT MOST 1048576: true; the input reads as it did. -/
def elfFormUptoRow : OpenClaim := { program := "ytpgipjjhapapjab", sum := "d0ac768b61170ff854263071737d250787df16ac037d32bf226114f832df1a57", func := "spindle/spindlelaw9.ElfForm", spec := "elfForm", inPlace := ["internal/bytealg.IndexByte", "internal/bytealg.IndexByteString"], unfollowed := true, recurses := true, apart := false, narrowed := true }
def ElfFormUptoSaid : Prop := elfFormUptoRow.holds Try.pinned (OpenSpec.upto elfFormSpec)

/-- 'spindlelaw9.ElfTurned', WHERE WHAT IT READS IS OF BULK AT MOST 1048576: true; the input reads as it did. -/
def elfTurnedUptoRow : OpenClaim := { program := "ytpgipjjhapapjab", sum := "d0ac768b61170ff854263071737d250787df16ac037d32bf226114f832df1a57", func := "spindle/spindlelaw9.ElfTurned", spec := "elfTurned", inPlace := ["internal/bytealg.IndexByte", "internal/bytealg.IndexByteString"], unfollowed := true, recurses := true, apart := false, narrowed := true }
def ElfTurnedUptoSaid : Prop := elfTurnedUptoRow.holds Try.pinned (OpenSpec.upto elfTurnedSpec)

/-- 'spindlelaw9.ElfCut', WHERE WHAT IT READS IS OF BULK AT MOST 1048576: true; the input reads as it did. -/
def elfCutUptoRow : OpenClaim := { program := "ytpgipjjhapapjab", sum := "d0ac768b61170ff854263071737d250787df16ac037d32bf226114f832df1a57", func := "spindle/spindlelaw9.ElfCut", spec := "elfCut", inPlace := ["internal/bytealg.IndexByte", "internal/bytealg.IndexByteString"], unfollowed := true, recurses := true, apart := false, narrowed := true }
def ElfCutUptoSaid : Prop := elfCutUptoRow.holds Try.pinned (OpenSpec.upto elfCutSpec)

end Rows
end Go.Proofs.Ytpgipjjhapapjab
