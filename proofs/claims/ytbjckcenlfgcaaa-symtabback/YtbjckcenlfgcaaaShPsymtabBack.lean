/- 'SymtabBack' answers true for every list of symbols that may come in, and the list reads behind the call as it read before. No condition beyond the row's own. -/
import Derived.Test.YtbjckcenlfgcaaaShLsymtabG
import Derived.Test.YtbjckcenlfgcaaaRows
import Derived.ProofKit
set_option linter.unusedVariables false
namespace Go.Proofs.Ytbjckcenlfgcaaa.symtab
open Go.Sh Go.ChangeAt
theorem own : ownKnob Try.prog.godebug = none := by kernel_rfl
theorem laidOut : laidOutB Try.prog = true := by kernel_rfl
theorem globs (W : World) : Globs pr link W := fun name cells h => by cases h
theorem says_symtabBack : SaysTrue Rows.symtabBackSpec 1 := ⟨rfl, fun H ds h => by
  match ds, h with
  | [d0], _ => exact ⟨rfl, rfl, rfl⟩⟩
set_option maxRecDepth 100000 in
theorem lifted_symtabBack (os : Os) (started : os.Started) (H : Type) (enc : TypeId × Value → H) :
    ReturnsInHanded {} Try.checked os 5 .any (Rows.symtabBackSpec.pre6 enc Try.prog Try.f5 Rows.symtabBackRow.domain false) (Rows.symtabBackSpec.post enc Try.prog Try.f5 false true false false) := by
  refine returnsInHanded_of_change_sized (C := Try.checked) own started (by kernel_rfl) Try.func5
    (ChangeSpec.witness6 (enc := enc) (C := Try.checked) false ⟨#[], #[.slice none 0 0], []⟩ 8 (by kernel_rfl) (by kernel_rfl) (by kernel_rfl) (by kernel_rfl)) ?_
  intro W base args ds gs before hval hW _ hw _
  have hgs : gs = [] := by
    obtain ⟨_, _, _, hV, _⟩ := hW
    exact (Go.ChangeShapes.trodVars_none hV).1
  subst hgs
  have hw' : (DataW.weightsEach Try.prog Try.f5.params.toList ds).all (· ≤ reachBytes) = true := by
    have e : Rows.symtabBackSpec.plain.varTypes Try.checked.prog = [] := rfl
    rw [e, List.append_nil, List.append_nil] at hw
    exact hw
  refine contractW (Pr := pr) (L := link) (F := 34) (tys := [.sl 48 symTy]) (tb := 4) laidOut tie (globs W) (by kernel_rfl) (by kernel_rfl) (by kernel_rfl) Try.underlying4 says_symtabBack hval hW hw' ?_
  intro dss ha _
  obtain ⟨ds', rfl, hh⟩ := all2_one ha
  simp only [Has] at hh
  obtain ⟨els, nz, rfl, hb, _, hel⟩ := hh
  obtain ⟨is, rfl, hwf⟩ := syms_of hel
  have e : argVs [.sl 48 symTy] [[.sl (is.map Sym.cells).length nz (is.map Sym.cells).flatten]] = [dsl Sym.cells nz is] := by rw [List.length_map]; rfl
  rw [List.length_map] at hb
  rw [e]
  exact CallW.of_den (law_SymtabBack hp hq haw nz is (by omega) hwf (st := st0)) rfl

theorem over_symtabBack : Rows.symtabBackRow.holds Try.pinned (OpenSpec.ofChange Rows.symtabBackSpec) :=
  OpenClaim.holds_of_wide 5 Try.f5 rfl rfl rfl rfl rfl rfl rfl ⟨rfl, rfl, rfl, rfl, rfl⟩ rfl rfl rfl rfl rfl (by kernel_rfl) Try.func5 (by kernel_rfl)
    (of_decide_eq_true (by kernel_rfl)) (by unfold Func.isWrapper; first | (rw [if_pos (by decide +kernel)]; kernel_rfl) | (rw [if_neg (by decide +kernel)]; exact ⟨rfl, rfl⟩))
    (fun os started H enc _ => lifted_symtabBack os started H enc)
theorem proved : Rows.SymtabBackSaid := over_symtabBack
#print axioms proved
end Go.Proofs.Ytbjckcenlfgcaaa.symtab
