/- 'ElfTurned' answers true for all sections and numbers that may come in and whose bulk is at most 1048576, and they read behind the call as they read before. -/
import Derived.Test.YtpgipjjhapapjabShGelfR
import Derived.Test.YtpgipjjhapapjabRows
import Derived.ProofKit
import Derived.Deep.CondSized
set_option linter.unusedVariables false
namespace Go.Proofs.Ytpgipjjhapapjab.elf
open Go.Sh Go.ChangeAt
theorem own : ownKnob Try.prog.godebug = none := by kernel_rfl
theorem laidOut : laidOutB Try.prog = true := by kernel_rfl
theorem globs (W : World) : Globs pr link W := fun name cells h => by cases h
theorem says_elfTurned : SaysTrue Rows.elfTurnedSpec 3 := ⟨rfl, fun H ds h => by
  match ds, h with
  | [d0, d1, d2], _ => exact ⟨rfl, rfl, rfl⟩⟩
set_option maxRecDepth 100000 in
theorem lifted_elfTurned (os : Os) (started : os.Started) (H : Type) (enc : TypeId × Value → H) (F : Stop.Interp) :
    ReturnsInHanded {} Try.checked os 5 .any ((Rows.OpenSpec.upto Rows.elfTurnedSpec).pre6 enc Try.prog Try.f5 Rows.elfTurnedUptoRow.domain false) (((Rows.OpenSpec.upto Rows.elfTurnedSpec).at F).post enc Try.prog Try.f5 false true false false) := by
  refine returnsInHanded_of_cond_sized (C := Try.checked) (s := Rows.OpenSpec.upto Rows.elfTurnedSpec) (k := Rows.uptoSmall) rfl own started (by kernel_rfl) Try.func5
    (OpenSpec.witness (enc := enc) (C := Try.checked) (s := Rows.OpenSpec.upto Rows.elfTurnedSpec) (k := Rows.uptoSmall) rfl false ⟨#[], #[.slice none 0 0, .int .i64 0, .int .i64 0], []⟩ 8 (by kernel_rfl) (by kernel_rfl) (by kernel_rfl)
      (x := ([.nil, .lit (.int .i64 0), .lit (.int .i64 0)], [], [])) (by kernel_rfl) rfl (by kernel_rfl)) ?_
  intro W base args ds gs before hval hW _ hk hw _
  have hgs : gs = [] := by
    obtain ⟨_, _, _, hV, _⟩ := hW
    exact (Go.ChangeShapes.trodVars_none hV).1
  subst hgs
  have hw' : (DataW.weightsEach Try.prog Try.f5.params.toList ds).all (· ≤ reachBytes) = true := by
    have e : (Rows.OpenSpec.upto Rows.elfTurnedSpec).bare.plain.varTypes Try.checked.prog = [] := rfl
    rw [e, List.append_nil, List.append_nil] at hw
    exact hw
  refine contractW (Pr := pr) (L := link) (F := 182) (tys := [.sl 88 secTy, .int .i64, .int .i64]) (tb := 4) laidOut tie (globs W) (by kernel_rfl) (by kernel_rfl) (by kernel_rfl) Try.underlying4 says_elfTurned hval hW hw' ?_
  intro dss ha hbulk
  have hbd : bulkL dss.flatten ≤ 1048576 := Nat.le_trans hbulk (small hk)
  obtain ⟨a1, a2, a3, rfl, h1, h2, h3⟩ := all2_three ha
  simp only [Has] at h1 h2 h3
  obtain ⟨els, nz, rfl, _, _, hel⟩ := h1
  obtain ⟨at', rfl, _, _⟩ := h2
  obtain ⟨x, rfl, _, _⟩ := h3
  obtain ⟨ss, rfl, hss⟩ := secs_of hel
  have hbd' : bulkL [D.sl (ss.map Sec.cells).length nz (ss.map Sec.cells).flatten, .i .i64 at', .i .i64 x] ≤ 1048576 := hbd
  obtain ⟨hn, hz, hd⟩ := secs_small hbd'
  have e : argVs [.sl 88 secTy, .int .i64, .int .i64] [[.sl (ss.map Sec.cells).length nz (ss.map Sec.cells).flatten], [.i .i64 at'], [.i .i64 x]] = [secV ss nz, .d (.i .i64 at'), .d (.i .i64 x)] := by rw [List.length_map]; rfl
  rw [e]
  exact (law_ElfTurned hp hs hq hr hLaw hB (nz := nz) (at' := at') (x := x) hn hz hss hd).mono fun v s h => h.2

theorem proved : Rows.ElfTurnedUptoSaid :=
  OpenClaim.holds_of_cond 5 Try.f5 rfl rfl rfl rfl rfl rfl rfl ⟨rfl, rfl, rfl, rfl, rfl⟩ rfl rfl rfl rfl rfl (by kernel_rfl) Try.func5 (by kernel_rfl)
    (of_decide_eq_true (by kernel_rfl)) (by unfold Func.isWrapper; first | (rw [if_pos (by decide +kernel)]; kernel_rfl) | (rw [if_neg (by decide +kernel)]; exact ⟨rfl, rfl⟩))
    (fun os started H enc _ F => lifted_elfTurned os started H enc F)
#print axioms proved
end Go.Proofs.Ytpgipjjhapapjab.elf
