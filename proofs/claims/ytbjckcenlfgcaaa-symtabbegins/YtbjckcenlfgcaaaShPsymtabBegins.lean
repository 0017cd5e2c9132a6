/- 'SymtabBegins' answers true for every list of symbols and any two numbers, and the arguments read behind the call as they read before. No condition beyond the row's own. -/
import Derived.Test.YtbjckcenlfgcaaaShLsymtabG
import Derived.Test.YtbjckcenlfgcaaaRows
import Derived.ProofKit
set_option linter.unusedVariables false
namespace Go.Proofs.Ytbjckcenlfgcaaa.symtab
open Go.Sh Go.ChangeAt
theorem own : ownKnob Try.prog.godebug = none := by kernel_rfl
theorem laidOut : laidOutB Try.prog = true := by kernel_rfl
theorem globs (W : World) : Globs pr link W := fun name cells h => by cases h
theorem says_symtabBegins : SaysTrue Rows.symtabBeginsSpec 3 := ⟨rfl, fun H ds h => by
  match ds, h with
  | [d0, d1, d2], _ => exact ⟨rfl, rfl, rfl⟩⟩
set_option maxRecDepth 100000 in
theorem lifted_symtabBegins (os : Os) (started : os.Started) (H : Type) (enc : TypeId × Value → H) :
    ReturnsInHanded {} Try.checked os 7 .any (Rows.symtabBeginsSpec.pre6 enc Try.prog Try.f7 Rows.symtabBeginsRow.domain false) (Rows.symtabBeginsSpec.post enc Try.prog Try.f7 false true false false) := by
  refine returnsInHanded_of_change_sized (C := Try.checked) own started (by kernel_rfl) Try.func7
    (ChangeSpec.witness6 (enc := enc) (C := Try.checked) false ⟨#[], #[.slice none 0 0, .int .i64 0, .int .i64 0], []⟩ 8 (by kernel_rfl) (by kernel_rfl) (by kernel_rfl) (by kernel_rfl)) ?_
  intro W base args ds gs before hval hW _ hw _
  have hgs : gs = [] := by
    obtain ⟨_, _, _, hV, _⟩ := hW
    exact (Go.ChangeShapes.trodVars_none hV).1
  subst hgs
  have hw' : (DataW.weightsEach Try.prog Try.f7.params.toList ds).all (· ≤ reachBytes) = true := by
    have e : Rows.symtabBeginsSpec.plain.varTypes Try.checked.prog = [] := rfl
    rw [e, List.append_nil, List.append_nil] at hw
    exact hw
  refine contractW (Pr := pr) (L := link) (F := 36) (tys := [.sl 48 symTy, .int .i64, .int .i64]) (tb := 4) laidOut tie (globs W) (by kernel_rfl) (by kernel_rfl) (by kernel_rfl) Try.underlying4 says_symtabBegins hval hW hw' ?_
  intro dss ha _
  obtain ⟨a1, a2, a3, rfl, hh, h2, h3⟩ := all2_three ha
  simp only [Has] at hh h2 h3
  obtain ⟨els, nz, rfl, hb, _, hel⟩ := hh
  obtain ⟨cut, rfl, _⟩ := h2
  obtain ⟨more, rfl, _⟩ := h3
  obtain ⟨is, rfl, hwf⟩ := syms_of hel
  have e : argVs [.sl 48 symTy, .int .i64, .int .i64] [[.sl (is.map Sym.cells).length nz (is.map Sym.cells).flatten], [.i .i64 cut], [.i .i64 more]] = [dsl Sym.cells nz is, .d (.i .i64 cut), .d (.i .i64 more)] := by rw [List.length_map]; rfl
  rw [List.length_map] at hb
  rw [e]
  exact CallW.of_den (law_SymtabBegins hp hq haw nz is cut more (by omega) hwf (st := st0)) rfl

theorem over_symtabBegins : Rows.symtabBeginsRow.holds Try.pinned (OpenSpec.ofChange Rows.symtabBeginsSpec) :=
  OpenClaim.holds_of_wide 7 Try.f7 rfl rfl rfl rfl rfl rfl rfl ⟨rfl, rfl, rfl, rfl, rfl⟩ rfl rfl rfl rfl rfl (by kernel_rfl) Try.func7 (by kernel_rfl)
    (of_decide_eq_true (by kernel_rfl)) (by unfold Func.isWrapper; first | (rw [if_pos (by decide +kernel)]; kernel_rfl) | (rw [if_neg (by decide +kernel)]; exact ⟨rfl, rfl⟩))
    (fun os started H enc _ => lifted_symtabBegins os started H enc)
theorem proved : Rows.SymtabBeginsSaid := over_symtabBegins
#print axioms proved
end Go.Proofs.Ytbjckcenlfgcaaa.symtab
