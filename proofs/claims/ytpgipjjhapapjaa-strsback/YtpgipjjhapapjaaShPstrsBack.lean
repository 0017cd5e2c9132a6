/- 'StrsBack' answers true for every list of texts that may come in, and the list reads behind the call as it read before. No condition beyond the row's own. -/
import Derived.Test.YtpgipjjhapapjaaShGstrs
import Derived.Test.YtpgipjjhapapjaaRows
import Derived.ProofKit
set_option linter.unusedVariables false
namespace Go.Proofs.Ytpgipjjhapapjaa.strs
open Go.Sh Go.ChangeAt
theorem own : ownKnob Try.prog.godebug = none := by kernel_rfl
theorem laidOut : laidOutB Try.prog = true := by kernel_rfl
theorem globs (W : World) : Globs pr link W := fun name cells h => by cases h
theorem says_strsBack : SaysTrue Rows.strsBackSpec 1 := ⟨rfl, fun H ds h => by
  match ds, h with
  | [d0], _ => exact ⟨rfl, rfl, rfl⟩⟩
set_option maxRecDepth 100000 in
theorem lifted_strsBack (os : Os) (started : os.Started) (H : Type) (enc : TypeId × Value → H) :
    ReturnsInHanded {} Try.checked os 3 .any (Rows.strsBackSpec.pre6 enc Try.prog Try.f3 Rows.strsBackRow.domain false) (Rows.strsBackSpec.post enc Try.prog Try.f3 false true false false) := by
  refine returnsInHanded_of_change_sized (C := Try.checked) own started (by kernel_rfl) Try.func3
    (ChangeSpec.witness6 (enc := enc) (C := Try.checked) false ⟨#[], #[.slice none 0 0], []⟩ 8 (by kernel_rfl) (by kernel_rfl) (by kernel_rfl) (by kernel_rfl)) ?_
  intro W base args ds gs before hval hW _ hw _
  have hgs : gs = [] := by
    obtain ⟨_, _, _, hV, _⟩ := hW
    exact (Go.ChangeShapes.trodVars_none hV).1
  subst hgs
  have hw' : (DataW.weightsEach Try.prog Try.f3.params.toList ds).all (· ≤ reachBytes) = true := by
    have e : Rows.strsBackSpec.plain.varTypes Try.checked.prog = [] := rfl
    rw [e, List.append_nil, List.append_nil] at hw
    exact hw
  refine contractW (Pr := pr) (L := link) (F := 141) (tys := [.sl 16 .str]) (tb := 4) laidOut tie (globs W) (by kernel_rfl) (by kernel_rfl) (by kernel_rfl) Try.underlying4 says_strsBack hval hW hw' ?_
  intro dss ha _
  obtain ⟨a1, rfl, hh⟩ := all2_one ha
  simp only [Has] at hh
  obtain ⟨els, nz, rfl, hb, _, hel⟩ := hh
  obtain ⟨ns, rfl, hns⟩ := strs_of (fun x hx => by simpa only [Has] using hel x hx)
  have e : argVs [.sl 16 .str] [[.sl (ns.map nmC).length nz (ns.map nmC).flatten]] = [dsl nmC nz ns] := by rw [List.length_map]; rfl
  rw [List.length_map] at hb
  rw [e]
  obtain ⟨st', h⟩ := law_StrsBack hp hq hl (nz := nz) hns (by omega)
  exact CallW.of_den h rfl

theorem over_strsBack : Rows.strsBackRow.holds Try.pinned (OpenSpec.ofChange Rows.strsBackSpec) :=
  OpenClaim.holds_of_wide 3 Try.f3 rfl rfl rfl rfl rfl rfl rfl ⟨rfl, rfl, rfl, rfl, rfl⟩ rfl rfl rfl rfl rfl (by kernel_rfl) Try.func3 (by kernel_rfl)
    (of_decide_eq_true (by kernel_rfl)) (by unfold Func.isWrapper; first | (rw [if_pos (by decide +kernel)]; kernel_rfl) | (rw [if_neg (by decide +kernel)]; exact ⟨rfl, rfl⟩))
    (fun os started H enc _ => lifted_strsBack os started H enc)
theorem proved : Rows.StrsBackSaid := over_strsBack
#print axioms proved
end Go.Proofs.Ytpgipjjhapapjaa.strs
