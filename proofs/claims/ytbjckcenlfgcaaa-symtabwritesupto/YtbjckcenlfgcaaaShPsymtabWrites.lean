/- 'SymtabWrites' answers true for any lists of symbols, where the arguments are not beyond the bound of the second form, and the arguments read behind the call as they read before. -/
import Derived.Test.YtbjckcenlfgcaaaShGsymtabW
import Derived.Test.YtbjckcenlfgcaaaShUsymtab
import Derived.Test.YtbjckcenlfgcaaaShBe
import Derived.Test.YtbjckcenlfgcaaaRows
import Derived.ProofKit
import Derived.Deep.CondSized
set_option linter.unusedVariables false
namespace Go.Proofs.Ytbjckcenlfgcaaa.symtabW
open Go.Sh Go.ChangeAt
theorem own : ownKnob Try.prog.godebug = none := by kernel_rfl
theorem laidOut : laidOutB Try.prog = true := by kernel_rfl
theorem globs (W : World) : Globs pr link W := fun name cells h => by cases h
theorem says_symtabWrites : SaysTrue Rows.symtabWritesSpec 1 := ⟨rfl, fun H ds h => by
  match ds, h with
  | [d0], _ => exact ⟨rfl, rfl, rfl⟩⟩
set_option maxRecDepth 100000 in
theorem lifted_symtabWrites (os : Os) (started : os.Started) (H : Type) (enc : TypeId × Value → H) (F : Stop.Interp) :
    ReturnsInHanded {} Try.checked os 3 .any ((Rows.OpenSpec.upto Rows.symtabWritesSpec).pre6 enc Try.prog Try.f3 Rows.symtabWritesUptoRow.domain false) (((Rows.OpenSpec.upto Rows.symtabWritesSpec).at F).post enc Try.prog Try.f3 false true false false) := by
  refine returnsInHanded_of_cond_sized (C := Try.checked) (s := Rows.OpenSpec.upto Rows.symtabWritesSpec) (k := Rows.uptoSmall) rfl own started (by kernel_rfl) Try.func3
    (OpenSpec.witness (enc := enc) (C := Try.checked) (s := Rows.OpenSpec.upto Rows.symtabWritesSpec) (k := Rows.uptoSmall) rfl false ⟨#[], #[.slice none 0 0], []⟩ 8 (by kernel_rfl) (by kernel_rfl) (by kernel_rfl)
      (x := ([.nil], [], [])) (by kernel_rfl) rfl (by kernel_rfl)) ?_
  intro W base args ds gs before hval hW _ hk hw _
  have hgs : gs = [] := by
    obtain ⟨_, _, _, hV, _⟩ := hW
    exact (Go.ChangeShapes.trodVars_none hV).1
  subst hgs
  have hw' : (DataW.weightsEach Try.prog Try.f3.params.toList ds).all (· ≤ reachBytes) = true := by
    have e : (Rows.OpenSpec.upto Rows.symtabWritesSpec).bare.plain.varTypes Try.checked.prog = [] := rfl
    rw [e, List.append_nil, List.append_nil] at hw
    exact hw
  refine contractW (Pr := pr) (L := link) (F := 122) (tys := [.sl 24 (.sl 48 (.agg [.int .i64, .int .i64, .int .i64, .int .i64, .int .i64, .int .i64]))]) (tb := 4) laidOut tie (globs W) (by kernel_rfl) (by kernel_rfl) (by kernel_rfl) Try.underlying4 says_symtabWrites hval hW hw' ?_
  intro dss ha hbulk
  have hbd : bulkL dss.flatten ≤ 1048576 := Nat.le_trans hbulk (small hk)
  obtain ⟨a1, rfl, hh⟩ := all2_one ha
  simp only [Has] at hh
  obtain ⟨els, nz, rfl, _, _, hel⟩ := hh
  obtain ⟨ls, rfl, hls⟩ := symss_of hel
  have hflat : (ls.map fun x => [symsD x]).flatten = ls.map symsD := flat_one symsD ls
  have hbd1 : bulkL (ls.map symsD) ≤ 1048576 := by
    have h : bulkL [D.sl (ls.map fun x => [symsD x]).length nz (ls.map fun x => [symsD x]).flatten] ≤ 1048576 := hbd
    rw [hflat] at h
    simp only [bulkL, bulkD] at h
    omega
  have hN : ls.length ≤ 1048576 := by
    have := len_bulk (ls.map symsD)
    rw [List.length_map] at this
    omega
  have hel' : ∀ x ∈ ls, x.2.length ≤ 1048576 ∧ ∀ y ∈ x.2, y.value ≤ 9223372036854775807 ∧ y.size ≤ 9223372036854775807 := by
    intro x hx
    refine ⟨?_, fun y hy => ?_⟩
    · have h1 := bulk_mem (List.mem_map_of_mem (f := symsD) hx)
      simp only [symsD, bulkD] at h1
      have h2 := len_bulk (x.2.map Sym.cells).flatten
      rw [flatten_len (sz := 6) (fun y hy => by simp only [List.mem_map] at hy; obtain ⟨z, _, rfl⟩ := hy; rfl), List.length_map] at h2
      omega
    · have := hls x hx y hy
      obtain ⟨_, _, _, _, h5, h6⟩ := this
      exact ⟨h5.2, h6.2⟩
  exact (law_SymtabWrites hp hb hd hr hLaw hnum haw (u := .d (.sl (ls.map fun x => [symsD x]).length nz (ls.map fun x => [symsD x]).flatten)) ⟨fun x hx => by simp only [List.mem_map] at hx; obtain ⟨y, _, rfl⟩ := hx; rfl, nz, rfl⟩ hN hel' (st := st0)).mono fun v s h => h.2

theorem proved : Rows.SymtabWritesUptoSaid :=
  OpenClaim.holds_of_cond 3 Try.f3 rfl rfl rfl rfl rfl rfl rfl ⟨rfl, rfl, rfl, rfl, rfl⟩ rfl rfl rfl rfl rfl (by kernel_rfl) Try.func3 (by kernel_rfl)
    (of_decide_eq_true (by kernel_rfl)) (by unfold Func.isWrapper; first | (rw [if_pos (by decide +kernel)]; kernel_rfl) | (rw [if_neg (by decide +kernel)]; exact ⟨rfl, rfl⟩))
    (fun os started H enc _ F => lifted_symtabWrites os started H enc F)
#print axioms proved
end Go.Proofs.Ytbjckcenlfgcaaa.symtabW
