/- 'SymtabReads' answers true for all byte strings that may come in and whose bulk is at most 1048576, and they read behind the call as they read before. -/
import Derived.Test.YtnemobbnlacmjaaShGsymtabR
import Derived.Test.YtnemobbnlacmjaaRows
import Derived.ProofKit
import Derived.Deep.CondSized
set_option linter.unusedVariables false
namespace Go.Proofs.Ytnemobbnlacmjaa.symtabR
open Go.Sh Go.ChangeAt
theorem own : ownKnob Try.prog.godebug = none := by kernel_rfl
theorem laidOut : laidOutB Try.prog = true := by kernel_rfl
theorem globs (W : World) : Globs pr link W := fun name cells h => by cases h
theorem says_symtabReads : SaysTrue Rows.symtabReadsSpec 1 := ⟨rfl, fun H ds h => by
  match ds, h with
  | [d0], _ => exact ⟨rfl, rfl, rfl⟩⟩
set_option maxRecDepth 100000 in
theorem lifted_symtabReads (os : Os) (started : os.Started) (H : Type) (enc : TypeId × Value → H) (F : Stop.Interp) :
    ReturnsInHanded {} Try.checked os 3 .any ((Rows.OpenSpec.upto Rows.symtabReadsSpec).pre6 enc Try.prog Try.f3 Rows.symtabReadsUptoRow.domain false) (((Rows.OpenSpec.upto Rows.symtabReadsSpec).at F).post enc Try.prog Try.f3 false true false false) := by
  refine returnsInHanded_of_cond_sized (C := Try.checked) (s := Rows.OpenSpec.upto Rows.symtabReadsSpec) (k := Rows.uptoSmall) rfl own started (by kernel_rfl) Try.func3
    (OpenSpec.witness (enc := enc) (C := Try.checked) (s := Rows.OpenSpec.upto Rows.symtabReadsSpec) (k := Rows.uptoSmall) rfl false ⟨#[], #[.slice none 0 0], []⟩ 8 (by kernel_rfl) (by kernel_rfl) (by kernel_rfl)
      (x := ([.nil], [], [])) (by kernel_rfl) rfl (by kernel_rfl)) ?_
  intro W base args ds gs before hval hW _ hk hw _
  have hgs : gs = [] := by
    obtain ⟨_, _, _, hV, _⟩ := hW
    exact (Go.ChangeShapes.trodVars_none hV).1
  subst hgs
  have hw' : (DataW.weightsEach Try.prog Try.f3.params.toList ds).all (· ≤ reachBytes) = true := by
    have e : (Rows.OpenSpec.upto Rows.symtabReadsSpec).bare.plain.varTypes Try.checked.prog = [] := rfl
    rw [e, List.append_nil, List.append_nil] at hw
    exact hw
  refine contractW (Pr := pr) (L := link) (F := 204) (tys := [.sl 24 (.sl 1 (.int .u8))]) (tb := 4) laidOut tie (globs W) (by kernel_rfl) (by kernel_rfl) (by kernel_rfl) Try.underlying4 says_symtabReads hval hW hw' ?_
  intro dss ha hbulk
  have hbd : bulkL dss.flatten ≤ 1048576 := Nat.le_trans hbulk (small hk)
  obtain ⟨a1, rfl, hh⟩ := all2_one ha
  simp only [Has] at hh
  obtain ⟨els, nz, rfl, _, _, hel⟩ := hh
  obtain ⟨T, rfl⟩ := texts_of hel
  have hflat : (T.map fun x => [txtD x]).flatten = T.map txtD := flat_one txtD T
  have hbd1 : bulkL (T.map txtD) ≤ 1048576 := by
    have h : bulkL [D.sl (T.map fun x => [txtD x]).length nz (T.map fun x => [txtD x]).flatten] ≤ 1048576 := hbd
    rw [hflat] at h
    simp only [bulkL, bulkD] at h
    omega
  have hN : T.length ≤ 1048576 := by
    have := len_bulk (T.map txtD)
    rw [List.length_map] at this
    omega
  have hel' : ∀ x ∈ T, x.2.length ≤ 1048576 := by
    intro x hx
    have h1 := bulk_mem (List.mem_map_of_mem (f := txtD) hx)
    simp only [txtD, bulkD] at h1
    have h2 := len_bulk (byteCells x.2)
    rw [byteCells_len] at h2
    omega
  exact (law_SymtabReads hp hd hr hl hs hLaw haw (u := .d (.sl (T.map fun x => [txtD x]).length nz (T.map fun x => [txtD x]).flatten)) ⟨fun x hx => by simp only [List.mem_map] at hx; obtain ⟨y, _, rfl⟩ := hx; rfl, nz, rfl⟩ hN hel' (st := st0)).mono fun v s h => h.2

theorem proved : Rows.SymtabReadsUptoSaid :=
  OpenClaim.holds_of_cond 3 Try.f3 rfl rfl rfl rfl rfl rfl rfl ⟨rfl, rfl, rfl, rfl, rfl⟩ rfl rfl rfl rfl rfl (by kernel_rfl) Try.func3 (by kernel_rfl)
    (of_decide_eq_true (by kernel_rfl)) (by unfold Func.isWrapper; first | (rw [if_pos (by decide +kernel)]; kernel_rfl) | (rw [if_neg (by decide +kernel)]; exact ⟨rfl, rfl⟩))
    (fun os started H enc _ F => lifted_symtabReads os started H enc F)
#print axioms proved
end Go.Proofs.Ytnemobbnlacmjaa.symtabR
