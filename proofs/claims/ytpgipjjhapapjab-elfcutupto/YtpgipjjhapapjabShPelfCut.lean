/- 'ElfCut' answers true for all sections, numbers and bytes that may come in and whose bulk is at most 1048576, and they read behind the call as they read before. -/
import Derived.Test.YtpgipjjhapapjabShGelfR
import Derived.Test.YtpgipjjhapapjabRows
import Derived.ProofKit
import Derived.Deep.CondSized
set_option linter.unusedVariables false
namespace Go.Proofs.Ytpgipjjhapapjab.elf
open Go.Sh Go.ChangeAt
theorem own : ownKnob Try.prog.godebug = none := by kernel_rfl
theorem laidOut : laidOutB Try.prog = true := by kernel_rfl
theorem globs (W : World) : Globs pr link W := fun name cells h => by cases h
theorem says_elfCut : SaysTrue Rows.elfCutSpec 3 := ⟨rfl, fun H ds h => by
  match ds, h with
  | [d0, d1, d2], _ => exact ⟨rfl, rfl, rfl⟩⟩
set_option maxRecDepth 100000 in
theorem lifted_elfCut (os : Os) (started : os.Started) (H : Type) (enc : TypeId × Value → H) (F : Stop.Interp) :
    ReturnsInHanded {} Try.checked os 6 .any ((Rows.OpenSpec.upto Rows.elfCutSpec).pre6 enc Try.prog Try.f6 Rows.elfCutUptoRow.domain false) (((Rows.OpenSpec.upto Rows.elfCutSpec).at F).post enc Try.prog Try.f6 false true false false) := by
  refine returnsInHanded_of_cond_sized (C := Try.checked) (s := Rows.OpenSpec.upto Rows.elfCutSpec) (k := Rows.uptoSmall) rfl own started (by kernel_rfl) Try.func6
    (OpenSpec.witness (enc := enc) (C := Try.checked) (s := Rows.OpenSpec.upto Rows.elfCutSpec) (k := Rows.uptoSmall) rfl false ⟨#[], #[.slice none 0 0, .int .i64 0, .slice none 0 0], []⟩ 8 (by kernel_rfl) (by kernel_rfl) (by kernel_rfl)
      (x := ([.nil, .lit (.int .i64 0), .nil], [], [])) (by kernel_rfl) rfl (by kernel_rfl)) ?_
  intro W base args ds gs before hval hW _ hk hw _
  have hgs : gs = [] := by
    obtain ⟨_, _, _, hV, _⟩ := hW
    exact (Go.ChangeShapes.trodVars_none hV).1
  subst hgs
  have hw' : (DataW.weightsEach Try.prog Try.f6.params.toList ds).all (· ≤ reachBytes) = true := by
    have e : (Rows.OpenSpec.upto Rows.elfCutSpec).bare.plain.varTypes Try.checked.prog = [] := rfl
    rw [e, List.append_nil, List.append_nil] at hw
    exact hw
  refine contractW (Pr := pr) (L := link) (F := 183) (tys := [.sl 88 secTy, .int .i64, .sl 1 (.int .u8)]) (tb := 4) laidOut tie (globs W) (by kernel_rfl) (by kernel_rfl) (by kernel_rfl) Try.underlying4 says_elfCut hval hW hw' ?_
  intro dss ha hbulk
  have hbd : bulkL dss.flatten ≤ 1048576 := Nat.le_trans hbulk (small hk)
  obtain ⟨a1, a2, a3, rfl, h1, h2, h3⟩ := all2_three ha
  simp only [Has] at h1 h2 h3
  obtain ⟨els, nz, rfl, _, _, hel⟩ := h1
  obtain ⟨keep, rfl, _, _⟩ := h2
  obtain ⟨els3, nz3, rfl, _, _, hel3⟩ := h3
  obtain ⟨ss, rfl, hss⟩ := secs_of hel
  obtain ⟨l, rfl⟩ := bytes_of hel3
  have hbd' : bulkL [D.sl (ss.map Sec.cells).length nz (ss.map Sec.cells).flatten, .i .i64 keep, D.sl (l.map byC).length nz3 (l.map byC).flatten] ≤ 1048576 := hbd
  obtain ⟨hn, hz, hd⟩ := secs_small hbd'
  have hl : l.length ≤ 1048576 := bulk_bytes (bulk_tail (bulk_tail hbd'))
  have e : argVs [.sl 88 secTy, .int .i64, .sl 1 (.int .u8)] [[.sl (ss.map Sec.cells).length nz (ss.map Sec.cells).flatten], [.i .i64 keep], [.sl (l.map byC).length nz3 (l.map byC).flatten]] = [secV ss nz, .d (.i .i64 keep), bsl nz3 l] := by rw [List.length_map, List.length_map, byC_flat]; rfl
  rw [e]
  exact (law_ElfCut hp hs hq hr hLaw hB (nz := nz) (nz2 := nz3) (keep := keep) (more := l) hn (by omega) hss hd hl).mono fun v s h => h.2

theorem proved : Rows.ElfCutUptoSaid :=
  OpenClaim.holds_of_cond 6 Try.f6 rfl rfl rfl rfl rfl rfl rfl ⟨rfl, rfl, rfl, rfl, rfl⟩ rfl rfl rfl rfl rfl (by kernel_rfl) Try.func6 (by kernel_rfl)
    (of_decide_eq_true (by kernel_rfl)) (by unfold Func.isWrapper; first | (rw [if_pos (by decide +kernel)]; kernel_rfl) | (rw [if_neg (by decide +kernel)]; exact ⟨rfl, rfl⟩))
    (fun os started H enc _ F => lifted_elfCut os started H enc F)
#print axioms proved
end Go.Proofs.Ytpgipjjhapapjab.elf
