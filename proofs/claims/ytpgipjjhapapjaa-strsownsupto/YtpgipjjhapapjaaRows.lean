/-
  No cell of these rows narrows 'for every input' (looked for: loops, veiled, ifaces, maps, wideKeys, modest, calm, conditions, laid).
  DERIVED. THE GIVEN ROWS OF THIS SEAT. 6 by the template 'for every input the law returns true; each argument reads behind the call as it read before'; 0 by the template 'total and deterministic' (their statements: YtpgipjjhapapjaaTotals.lean).
  GIVEN WITH THE SEED: the statements are not yours to turn. If you find one false, say at which input.
  Laid BY PROGRAM, IN A SANDBOX (cutbox-rows.mjs): the forced cells as the released guide's own fill.sh prints them over the translation 7e448fab7bba761e… (all of the seat's roots in one cut). By AI agents, Wed Nov 11 2026. No macro, syntax, notation, axiom, sorry.
-/
import Derived.Test.YtpgipjjhapapjaaChecked
import GoSem.Claim
import GoSem.ClaimJoined
import GoSem.ClaimMapViews
import Derived.JoinedTies
import Derived.KernelRfl
namespace Go.Proofs.Ytpgipjjhapapjaa
/- THE CELL 'sum', in the pinned program and in every row, IS THE sha256 OF THE DUMP (.gsa) THAT YtpgipjjhapapjaaProg.lean LOADS. Nothing in Lean hashes anything: it is a label: what it is worth is what the hold of that sum in a sandbox is worth. -/
noncomputable def Try.pinned : Pinned := { name := "ytpgipjjhapapjaa", sum := "7e448fab7bba761ec22261bcab5d8e77699235babc09b29a4da5f9619d9f929c", checked := Try.checked }
namespace Rows
def none {H : Type} : Left H := { results := [], args := [] }

/-- 'spindlelaw8.StrsBack': WHATEVER THE INPUT: true; the input reads as it did. -/
def strsBackSpec : ChangeSpec := { name := "strsBack", fn := fun _ => fun
  | [d] => { results := [.lit (.bool true)], args := [d] }
  | _ => none }
def strsBackRow : OpenClaim := { program := "ytpgipjjhapapjaa", sum := "7e448fab7bba761ec22261bcab5d8e77699235babc09b29a4da5f9619d9f929c", func := "spindle/spindlelaw8.StrsBack", spec := "strsBack", inPlace := ["internal/bytealg.IndexByteString", "internal/bytealg.IndexByte"], apart := false }
def StrsBackSaid : Prop := strsBackRow.holds Try.pinned (OpenSpec.ofChange strsBackSpec)

/-- ITS FALSE NEIGHBOUR: 'it returns false'. Refute it at one input. -/
def strsBackWrong : ChangeSpec := { name := "strsBack", fn := fun _ => fun
  | [d] => { results := [.lit (.bool false)], args := [d] }
  | _ => none }
def StrsBackWrongFalsely : Prop := strsBackRow.holds Try.pinned (OpenSpec.ofChange strsBackWrong)

/-- 'spindlelaw8.StrsAll': WHATEVER THE INPUT: true; the input reads as it did. -/
def strsAllSpec : ChangeSpec := { name := "strsAll", fn := fun _ => fun
  | [d1, d2, d3] => { results := [.lit (.bool true)], args := [d1, d2, d3] }
  | _ => none }
def strsAllRow : OpenClaim := { program := "ytpgipjjhapapjaa", sum := "7e448fab7bba761ec22261bcab5d8e77699235babc09b29a4da5f9619d9f929c", func := "spindle/spindlelaw8.StrsAll", spec := "strsAll", inPlace := ["internal/bytealg.IndexByte", "internal/bytealg.IndexByteString"], apart := false }
def StrsAllSaid : Prop := strsAllRow.holds Try.pinned (OpenSpec.ofChange strsAllSpec)

/-- ITS FALSE NEIGHBOUR: 'it returns false'. Refute it at one input. -/
def strsAllWrong : ChangeSpec := { name := "strsAll", fn := fun _ => fun
  | [d1, d2, d3] => { results := [.lit (.bool false)], args := [d1, d2, d3] }
  | _ => none }
def StrsAllWrongFalsely : Prop := strsAllRow.holds Try.pinned (OpenSpec.ofChange strsAllWrong)

/-- 'spindlelaw8.StrsReads': WHATEVER THE INPUT: true; the input reads as it did. -/
def strsReadsSpec : ChangeSpec := { name := "strsReads", fn := fun _ => fun
  | [d] => { results := [.lit (.bool true)], args := [d] }
  | _ => none }
def strsReadsRow : OpenClaim := { program := "ytpgipjjhapapjaa", sum := "7e448fab7bba761ec22261bcab5d8e77699235babc09b29a4da5f9619d9f929c", func := "spindle/spindlelaw8.StrsReads", spec := "strsReads", inPlace := ["internal/bytealg.IndexByte", "internal/bytealg.IndexByteString"], apart := false }
def StrsReadsSaid : Prop := strsReadsRow.holds Try.pinned (OpenSpec.ofChange strsReadsSpec)

/-- ITS FALSE NEIGHBOUR: 'it returns false'. Refute it at one input. -/
def strsReadsWrong : ChangeSpec := { name := "strsReads", fn := fun _ => fun
  | [d] => { results := [.lit (.bool false)], args := [d] }
  | _ => none }
def StrsReadsWrongFalsely : Prop := strsReadsRow.holds Try.pinned (OpenSpec.ofChange strsReadsWrong)

/-- 'spindlelaw8.StrsOwns': WHATEVER THE INPUT: true; the input reads as it did. -/
def strsOwnsSpec : ChangeSpec := { name := "strsOwns", fn := fun _ => fun
  | [d1, d2] => { results := [.lit (.bool true)], args := [d1, d2] }
  | _ => none }
def strsOwnsRow : OpenClaim := { program := "ytpgipjjhapapjaa", sum := "7e448fab7bba761ec22261bcab5d8e77699235babc09b29a4da5f9619d9f929c", func := "spindle/spindlelaw8.StrsOwns", spec := "strsOwns", inPlace := ["internal/bytealg.IndexByte", "internal/bytealg.IndexByteString"], apart := false }
def StrsOwnsSaid : Prop := strsOwnsRow.holds Try.pinned (OpenSpec.ofChange strsOwnsSpec)

/-- ITS FALSE NEIGHBOUR: 'it returns false'. Refute it at one input. -/
def strsOwnsWrong : ChangeSpec := { name := "strsOwns", fn := fun _ => fun
  | [d1, d2] => { results := [.lit (.bool false)], args := [d1, d2] }
  | _ => none }
def StrsOwnsWrongFalsely : Prop := strsOwnsRow.holds Try.pinned (OpenSpec.ofChange strsOwnsWrong)

/-- 'spindlelaw9.ElfWrites': WHATEVER THE INPUT: true; the input reads as it did. -/
def elfWritesSpec : ChangeSpec := { name := "elfWrites", fn := fun _ => fun
  | [d] => { results := [.lit (.bool true)], args := [d] }
  | _ => none }
def elfWritesRow : OpenClaim := { program := "ytpgipjjhapapjaa", sum := "7e448fab7bba761ec22261bcab5d8e77699235babc09b29a4da5f9619d9f929c", func := "spindle/spindlelaw9.ElfWrites", spec := "elfWrites", inPlace := ["internal/bytealg.IndexByte", "internal/bytealg.IndexByteString"], unfollowed := true, recurses := true, apart := false }
def ElfWritesSaid : Prop := elfWritesRow.holds Try.pinned (OpenSpec.ofChange elfWritesSpec)

/-- ITS FALSE NEIGHBOUR: 'it returns false'. Refute it at one input. -/
def elfWritesWrong : ChangeSpec := { name := "elfWrites", fn := fun _ => fun
  | [d] => { results := [.lit (.bool false)], args := [d] }
  | _ => none }
def ElfWritesWrongFalsely : Prop := elfWritesRow.holds Try.pinned (OpenSpec.ofChange elfWritesWrong)

/-- 'spindlelaw9.ElfReads': WHATEVER THE INPUT: true; the input reads as it did. -/
def elfReadsSpec : ChangeSpec := { name := "elfReads", fn := fun _ => fun
  | [d] => { results := [.lit (.bool true)], args := [d] }
  | _ => none }
def elfReadsRow : OpenClaim := { program := "ytpgipjjhapapjaa", sum := "7e448fab7bba761ec22261bcab5d8e77699235babc09b29a4da5f9619d9f929c", func := "spindle/spindlelaw9.ElfReads", spec := "elfReads", inPlace := ["internal/bytealg.IndexByte", "internal/bytealg.IndexByteString"], unfollowed := true, recurses := true, apart := false }
def ElfReadsSaid : Prop := elfReadsRow.holds Try.pinned (OpenSpec.ofChange elfReadsSpec)

/-- ITS FALSE NEIGHBOUR: 'it returns false'. Refute it at one input. -/
def elfReadsWrong : ChangeSpec := { name := "elfReads", fn := fun _ => fun
  | [d] => { results := [.lit (.bool false)], args := [d] }
  | _ => none }
def ElfReadsWrongFalsely : Prop := elfReadsRow.holds Try.pinned (OpenSpec.ofChange elfReadsWrong)

/- THE SECOND FORM. 'bulk': how many values and letters a reading holds, each counted each time it is reached (what is shared counts as often as it is met; a slice's spare places count too). A statement '..UptoSaid' is the law's where the arguments, and the package variables that the reading takes, are together of bulk at most 1048576: NARROWER than '..Said'. Prove '..Said' where nothing that the law and all that it calls make is longer than what came in: it says more and counts as full. Else prove '..UptoSaid'. A law counts once. -/
mutual
def uptoBulk {H : Type} : DataW H → Nat
  | .lit (.string bytes) => bytes.length + 1
  | .lit _ => 1
  | .nil => 1
  | .ptr d => uptoBulk d + 1
  | .slice elems spare => uptoBulkAll elems + uptoBulkAll spare + 1
  | .agg parts => uptoBulkAll parts + 1
  | .iface _ d => uptoBulk d + 1
  | .map entries => uptoBulkEntries entries + 1
  | .held _ => 1
def uptoBulkAll {H : Type} : List (DataW H) → Nat
  | [] => 0
  | d :: r => uptoBulk d + uptoBulkAll r
def uptoBulkEntries {H : Type} : List (Lit × DataW H) → Nat
  | [] => 0
  | x :: r => uptoBulkEntry x + uptoBulkEntries r
def uptoBulkEntry {H : Type} : Lit × DataW H → Nat
  | (.string bytes, d) => bytes.length + uptoBulk d + 1
  | (_, d) => uptoBulk d + 1
 end
def uptoSmall : (H : Type) → List (DataW H) → Bool := fun _ ds => decide (uptoBulkAll ds ≤ 1048576)
def OpenSpec.upto (s : _root_.Go.ChangeSpec) : _root_.Go.OpenSpec := { _root_.Go.OpenSpec.ofChange s with cond := some uptoSmall }

/-- 'spindlelaw8.StrsBack', WHERE WHAT IT READS IS OF BULK AT MOST 1048576: true; the input reads as it did. -/
def strsBackUptoRow : OpenClaim := { program := "ytpgipjjhapapjaa", sum := "7e448fab7bba761ec22261bcab5d8e77699235babc09b29a4da5f9619d9f929c", func := "spindle/spindlelaw8.StrsBack", spec := "strsBack", inPlace := ["internal/bytealg.IndexByteString", "internal/bytealg.IndexByte"], apart := false, narrowed := true }
def StrsBackUptoSaid : Prop := strsBackUptoRow.holds Try.pinned (OpenSpec.upto strsBackSpec)

/-- 'spindlelaw8.StrsAll', WHERE WHAT IT READS IS OF BULK AT MOST 1048576: true; the input reads as it did. -/
def strsAllUptoRow : OpenClaim := { program := "ytpgipjjhapapjaa", sum := "7e448fab7bba761ec22261bcab5d8e77699235babc09b29a4da5f9619d9f929c", func := "spindle/spindlelaw8.StrsAll", spec := "strsAll", inPlace := ["internal/bytealg.IndexByte", "internal/bytealg.IndexByteString"], apart := false, narrowed := true }
def StrsAllUptoSaid : Prop := strsAllUptoRow.holds Try.pinned (OpenSpec.upto strsAllSpec)

/-- 'spindlelaw8.StrsReads', WHERE WHAT IT READS IS OF BULK AT MOST 1048576: true; the input reads as it did. -/
def strsReadsUptoRow : OpenClaim := { program := "ytpgipjjhapapjaa", sum := "7e448fab7bba761ec22261bcab5d8e77699235babc09b29a4da5f9619d9f929c", func := "spindle/spindlelaw8.StrsReads", spec := "strsReads", inPlace := ["internal/bytealg.IndexByte", "internal/bytealg.IndexByteString"], apart := false, narrowed := true }
def StrsReadsUptoSaid : Prop := strsReadsUptoRow.holds Try.pinned (OpenSpec.upto strsReadsSpec)

/-- 'spindlelaw8.StrsOwns', WHERE WHAT IT READS IS OF BULK AT MOST 1048576: true; the input reads as it did. -/
def strsOwnsUptoRow : OpenClaim := { program := "ytpgipjjhapapjaa", sum := "7e448fab7bba761ec22261bcab5d8e77699235babc09b29a4da5f9619d9f929c", func := "spindle/spindlelaw8.StrsOwns", spec := "strsOwns", inPlace := ["internal/bytealg.IndexByte", "internal/bytealg.IndexByteString"], apart := false, narrowed := true }
def StrsOwnsUptoSaid : Prop := strsOwnsUptoRow.holds Try.pinned (OpenSpec.upto strsOwnsSpec)

/-- 'spindlelaw9.ElfWrites', WHERE WHAT IT READS IS OF BULK AT MOST 1048576: true; the input reads as it did. -/
def elfWritesUptoRow : OpenClaim := { program := "ytpgipjjhapapjaa", sum := "7e448fab7bba761ec22261bcab5d8e77699235babc09b29a4da5f9619d9f929c", func := "spindle/spindlelaw9.ElfWrites", spec := "elfWrites", inPlace := ["internal/bytealg.IndexByte", "internal/bytealg.IndexByteString"], unfollowed := true, recurses := true, apart := false, narrowed := true }
def ElfWritesUptoSaid : Prop := elfWritesUptoRow.holds Try.pinned (OpenSpec.upto elfWritesSpec)

/-- 'spindlelaw9.ElfReads', WHERE WHAT IT READS IS OF BULK AT MOST 1048576: true; the input reads as it did. -/
def elfReadsUptoRow : OpenClaim := { program := "ytpgipjjhapapjaa", sum := "7e448fab7bba761ec22261bcab5d8e77699235babc09b29a4da5f9619d9f929c", func := "spindle/spindlelaw9.ElfReads", spec := "elfReads", inPlace := ["internal/bytealg.IndexByte", "internal/bytealg.IndexByteString"], unfollowed := true, recurses := true, apart := false, narrowed := true }
def ElfReadsUptoSaid : Prop := elfReadsUptoRow.holds Try.pinned (OpenSpec.upto elfReadsSpec)

end Rows
end Go.Proofs.Ytpgipjjhapapjaa
