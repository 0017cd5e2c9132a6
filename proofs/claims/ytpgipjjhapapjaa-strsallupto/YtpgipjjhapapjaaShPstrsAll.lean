/- 'StrsAll' answers true for all arguments that may come in and whose bulk is at most 1048576, and they read behind the call as they read before. -/
import Derived.Test.YtpgipjjhapapjaaShGstrs
import Derived.Test.YtpgipjjhapapjaaShUstrs
import Derived.Test.YtpgipjjhapapjaaRows
import Derived.ProofKit
import Derived.Deep.CondSized
set_option linter.unusedVariables false
namespace Go.Proofs.Ytpgipjjhapapjaa.strs
open Go.Sh Go.ChangeAt
theorem own : ownKnob Try.prog.godebug = none := by kernel_rfl
theorem laidOut : laidOutB Try.prog = true := by kernel_rfl
theorem globs (W : World) : Globs pr link W := fun name cells h => by cases h
theorem says_strsAll : SaysTrue Rows.strsAllSpec 3 := ⟨rfl, fun H ds h => by
  match ds, h with
  | [d0, d1, d2], _ => exact ⟨rfl, rfl, rfl⟩⟩
set_option maxRecDepth 100000 in
theorem lifted_strsAll (os : Os) (started : os.Started) (H : Type) (enc : TypeId × Value → H) (F : Stop.Interp) :
    ReturnsInHanded {} Try.checked os 4 .any ((Rows.OpenSpec.upto Rows.strsAllSpec).pre6 enc Try.prog Try.f4 Rows.strsAllUptoRow.domain false) (((Rows.OpenSpec.upto Rows.strsAllSpec).at F).post enc Try.prog Try.f4 false true false false) := by
  refine returnsInHanded_of_cond_sized (C := Try.checked) (s := Rows.OpenSpec.upto Rows.strsAllSpec) (k := Rows.uptoSmall) rfl own started (by kernel_rfl) Try.func4
    (OpenSpec.witness (enc := enc) (C := Try.checked) (s := Rows.OpenSpec.upto Rows.strsAllSpec) (k := Rows.uptoSmall) rfl false ⟨#[], #[.slice none 0 0, .slice none 0 0, .slice none 0 0], []⟩ 8 (by kernel_rfl) (by kernel_rfl) (by kernel_rfl)
      (x := ([.nil, .nil, .nil], [], [])) (by kernel_rfl) rfl (by kernel_rfl)) ?_
  intro W base args ds gs before hval hW _ hk hw _
  have hgs : gs = [] := by
    obtain ⟨_, _, _, hV, _⟩ := hW
    exact (Go.ChangeShapes.trodVars_none hV).1
  subst hgs
  have hw' : (DataW.weightsEach Try.prog Try.f4.params.toList ds).all (· ≤ reachBytes) = true := by
    have e : (Rows.OpenSpec.upto Rows.strsAllSpec).bare.plain.varTypes Try.checked.prog = [] := rfl
    rw [e, List.append_nil, List.append_nil] at hw
    exact hw
  refine contractW (Pr := pr) (L := link) (F := 158) (tys := [.sl 1 (.int .u8), .sl 1 (.int .u8), .sl 40 actTy]) (tb := 4) laidOut tie (globs W) (by kernel_rfl) (by kernel_rfl) (by kernel_rfl) Try.underlying4 says_strsAll hval hW hw' ?_
  intro dss ha hbulk
  have hbd : bulkL dss.flatten ≤ 1048576 := Nat.le_trans hbulk (small hk)
  obtain ⟨a1, a2, a3, rfl, h1, h2, h3⟩ := all2_three ha
  simp only [Has] at h1 h2 h3
  obtain ⟨els1, nz1, rfl, _, _, hel1⟩ := h1
  obtain ⟨els2, nz2, rfl, _, _, hel2⟩ := h2
  obtain ⟨els3, nz3, rfl, _, _, hel3⟩ := h3
  obtain ⟨l1, rfl⟩ := bytes_of hel1
  obtain ⟨l2, rfl⟩ := bytes_of hel2
  obtain ⟨acs, rfl, has⟩ := acts_of hel3
  have hs1 : l1.length ≤ 1048576 := bulk_bytes hbd
  have hs2 : l2.length ≤ 1048576 := bulk_bytes (bulk_tail hbd)
  have hs3 : acs.length ≤ 1048576 := bulk_els (c := actC) (sz := 4) (fun _ => rfl) (by omega) (bulk_tail (bulk_tail hbd))
  have e : argVs [.sl 1 (.int .u8), .sl 1 (.int .u8), .sl 40 actTy] [[.sl (l1.map byC).length nz1 (l1.map byC).flatten], [.sl (l2.map byC).length nz2 (l2.map byC).flatten], [.sl (acs.map actC).length nz3 (acs.map actC).flatten]] = [bsl nz1 l1, bsl nz2 l2, dsl actC nz3 acs] := by rw [List.length_map, List.length_map, List.length_map, byC_flat, byC_flat]; rfl
  rw [e]
  obtain ⟨st', h⟩ := law_StrsAll hp hq hl hr hAll (nz1 := nz1) (nz2 := nz2) (nz := nz3) (L1 := l1) (L2 := l2) (by omega) (by omega) (by omega) has
  exact CallW.of_den h rfl

theorem proved : Rows.StrsAllUptoSaid :=
  OpenClaim.holds_of_cond 4 Try.f4 rfl rfl rfl rfl rfl rfl rfl ⟨rfl, rfl, rfl, rfl, rfl⟩ rfl rfl rfl rfl rfl (by kernel_rfl) Try.func4 (by kernel_rfl)
    (of_decide_eq_true (by kernel_rfl)) (by unfold Func.isWrapper; first | (rw [if_pos (by decide +kernel)]; kernel_rfl) | (rw [if_neg (by decide +kernel)]; exact ⟨rfl, rfl⟩))
    (fun os started H enc _ F => lifted_strsAll os started H enc F)
#print axioms proved
end Go.Proofs.Ytpgipjjhapapjaa.strs
