/- 'SymtabOne' answers true for any bytes, number and byte, where the arguments are not beyond the bound of the second form, and the arguments read behind the call as they read before. -/
import Derived.Test.YtbjckcenlfgcaaaShLsymtabG
import Derived.Test.YtbjckcenlfgcaaaShUsymtab
import Derived.Test.YtbjckcenlfgcaaaShBe
import Derived.Test.YtbjckcenlfgcaaaRows
import Derived.ProofKit
import Derived.Deep.CondSized
set_option linter.unusedVariables false
namespace Go.Proofs.Ytbjckcenlfgcaaa.symtab
open Go.Sh Go.ChangeAt
theorem own : ownKnob Try.prog.godebug = none := by kernel_rfl
theorem laidOut : laidOutB Try.prog = true := by kernel_rfl
theorem globs (W : World) : Globs pr link W := fun name cells h => by cases h
theorem says_symtabOne : SaysTrue Rows.symtabOneSpec 3 := ⟨rfl, fun H ds h => by
  match ds, h with
  | [d0, d1, d2], _ => exact ⟨rfl, rfl, rfl⟩⟩
set_option maxRecDepth 100000 in
theorem lifted_symtabOne (os : Os) (started : os.Started) (H : Type) (enc : TypeId × Value → H) (F : Stop.Interp) :
    ReturnsInHanded {} Try.checked os 6 .any ((Rows.OpenSpec.upto Rows.symtabOneSpec).pre6 enc Try.prog Try.f6 Rows.symtabOneUptoRow.domain false) (((Rows.OpenSpec.upto Rows.symtabOneSpec).at F).post enc Try.prog Try.f6 false true false false) := by
  refine returnsInHanded_of_cond_sized (C := Try.checked) (s := Rows.OpenSpec.upto Rows.symtabOneSpec) (k := Rows.uptoSmall) rfl own started (by kernel_rfl) Try.func6
    (OpenSpec.witness (enc := enc) (C := Try.checked) (s := Rows.OpenSpec.upto Rows.symtabOneSpec) (k := Rows.uptoSmall) rfl false ⟨#[], #[.slice none 0 0, .int .i64 0, .int .u8 0], []⟩ 8 (by kernel_rfl) (by kernel_rfl) (by kernel_rfl)
      (x := ([.nil, .lit (.int .i64 0), .lit (.int .u8 0)], [], [])) (by kernel_rfl) rfl (by kernel_rfl)) ?_
  intro W base args ds gs before hval hW _ hk hw _
  have hgs : gs = [] := by
    obtain ⟨_, _, _, hV, _⟩ := hW
    exact (Go.ChangeShapes.trodVars_none hV).1
  subst hgs
  have hw' : (DataW.weightsEach Try.prog Try.f6.params.toList ds).all (· ≤ reachBytes) = true := by
    have e : (Rows.OpenSpec.upto Rows.symtabOneSpec).bare.plain.varTypes Try.checked.prog = [] := rfl
    rw [e, List.append_nil, List.append_nil] at hw
    exact hw
  refine contractW (Pr := pr) (L := link) (F := 37) (tys := [.sl 1 (.int .u8), .int .i64, .int .u8]) (tb := 4) laidOut tie (globs W) (by kernel_rfl) (by kernel_rfl) (by kernel_rfl) Try.underlying4 says_symtabOne hval hW hw' ?_
  intro dss ha hbulk
  have hbd : bulkL dss.flatten ≤ 1048576 := Nat.le_trans hbulk (small hk)
  obtain ⟨a1, a2, a3, rfl, hh, h2, h3⟩ := all2_three ha
  simp only [Has] at hh h2 h3
  obtain ⟨els, nz, rfl, hb, _, hel⟩ := hh
  obtain ⟨at_, rfl, _, hat⟩ := h2
  obtain ⟨x, rfl, hx0, hx1⟩ := h3
  obtain ⟨l, rfl⟩ := bytes_of hel
  have hsm : l.length ≤ 1048576 := bulk_bytes hbd
  obtain ⟨to, rfl⟩ : ∃ to : UInt8, x = to.toNat := by
    have hx0 : 0 ≤ x := hx0
    have hx1 : x ≤ 255 := hx1
    refine ⟨UInt8.ofNat x.toNat, ?_⟩
    rw [UInt8.toNat_ofNat']
    omega
  have e : argVs [.sl 1 (.int .u8), .int .i64, .int .u8] [[.sl (l.map byC).length nz (l.map byC).flatten], [.i .i64 at_], [.i .u8 to.toNat]] = [bsl nz l, .d (.i .i64 at_), .d (.i .u8 to.toNat)] := by rw [List.length_map, byC_flat]; rfl
  rw [e]
  exact (law_SymtabOne hp hq hOne haw nz l at_ to (by omega) hat (st := st0)).mono fun v s h => h.2

theorem proved : Rows.SymtabOneUptoSaid :=
  OpenClaim.holds_of_cond 6 Try.f6 rfl rfl rfl rfl rfl rfl rfl ⟨rfl, rfl, rfl, rfl, rfl⟩ rfl rfl rfl rfl rfl (by kernel_rfl) Try.func6 (by kernel_rfl)
    (of_decide_eq_true (by kernel_rfl)) (by unfold Func.isWrapper; first | (rw [if_pos (by decide +kernel)]; kernel_rfl) | (rw [if_neg (by decide +kernel)]; exact ⟨rfl, rfl⟩))
    (fun os started H enc _ F => lifted_symtabOne os started H enc F)
#print axioms proved
end Go.Proofs.Ytbjckcenlfgcaaa.symtab
