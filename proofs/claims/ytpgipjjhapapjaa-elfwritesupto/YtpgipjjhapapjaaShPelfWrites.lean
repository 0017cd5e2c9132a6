/- 'ElfWrites' answers true for all lists of lists of sections that may come in and whose bulk is at most 1048576, and they read behind the call as they read before. -/
import Derived.Test.YtpgipjjhapapjaaShGelfw
import Derived.Test.YtpgipjjhapapjaaShUelfw
import Derived.Test.YtpgipjjhapapjaaRows
import Derived.ProofKit
import Derived.Deep.CondSized
set_option linter.unusedVariables false
namespace Go.Proofs.Ytpgipjjhapapjaa.elfw
open Go.Sh Go.ChangeAt
theorem own : ownKnob Try.prog.godebug = none := by kernel_rfl
theorem laidOut : laidOutB Try.prog = true := by kernel_rfl
theorem globs (W : World) : Globs pr link W := ⟨fun name cells h => (by cases h), fun _ _ => trivial⟩
theorem says_elfWrites : SaysTrue Rows.elfWritesSpec 1 := ⟨rfl, fun H ds h => by
  match ds, h with
  | [d0], _ => exact ⟨rfl, rfl, rfl⟩⟩
set_option maxRecDepth 100000 in
theorem lifted_elfWrites (os : Os) (started : os.Started) (H : Type) (enc : TypeId × Value → H) (F : Stop.Interp) :
    ReturnsInHanded {} Try.checked os 7 .any ((Rows.OpenSpec.upto Rows.elfWritesSpec).pre6 enc Try.prog Try.f7 Rows.elfWritesUptoRow.domain false) (((Rows.OpenSpec.upto Rows.elfWritesSpec).at F).post enc Try.prog Try.f7 false true false false) := by
  refine returnsInHanded_of_cond_sized (C := Try.checked) (s := Rows.OpenSpec.upto Rows.elfWritesSpec) (k := Rows.uptoSmall) rfl own started (by kernel_rfl) Try.func7
    (OpenSpec.witness (enc := enc) (C := Try.checked) (s := Rows.OpenSpec.upto Rows.elfWritesSpec) (k := Rows.uptoSmall) rfl false ⟨#[], #[.slice none 0 0], []⟩ 8 (by kernel_rfl) (by kernel_rfl) (by kernel_rfl)
      (x := ([.nil], [], [])) (by kernel_rfl) rfl (by kernel_rfl)) ?_
  intro W base args ds gs before hval hW _ hk hw _
  have hgs : gs = [] := by
    obtain ⟨_, _, _, hV, _⟩ := hW
    exact (Go.ChangeShapes.trodVars_none hV).1
  subst hgs
  have hw' : (DataW.weightsEach Try.prog Try.f7.params.toList ds).all (· ≤ reachBytes) = true := by
    have e : (Rows.OpenSpec.upto Rows.elfWritesSpec).bare.plain.varTypes Try.checked.prog = [] := rfl
    rw [e, List.append_nil, List.append_nil] at hw
    exact hw
  refine contractW (Pr := pr) (L := link) (F := 351) (tys := [.sl 24 (.sl 88 secTy)]) (tb := 4) laidOut tie (globs W) (by kernel_rfl) (by kernel_rfl) (by kernel_rfl) Try.underlying4 says_elfWrites hval hW hw' ?_
  intro dss ha hbulk
  have hbd : bulkL dss.flatten ≤ 1048576 := Nat.le_trans hbulk (small hk)
  obtain ⟨a1, rfl, hh⟩ := all2_one ha
  simp only [Has] at hh
  obtain ⟨els, nz, rfl, _, _, hel⟩ := hh
  obtain ⟨ls, rfl, hls⟩ := lists_of (fun x hx => by simpa only [Has] using hel x hx)
  have hbd' : bulkL [D.sl (ls.map lsD).length nz (ls.map lsD).flatten] ≤ 1048576 := hbd
  obtain ⟨hn, hss⟩ := lists_small hls hbd'
  have hu : SlD 1 (.d (.sl (ls.map lsD).length nz (ls.map lsD).flatten)) (ls.map fun x => [D.sl x.2.length x.1 (x.2.map Sec.cells).flatten]) := ⟨fun x hx => by obtain ⟨y, _, rfl⟩ := List.mem_map.1 hx; rfl, nz, rfl⟩
  exact (law_ElfWrites hp hs hq hr hAw hrw h8 hRk hd hb he hA hu hn hss).mono fun v s h => h.2

theorem proved : Rows.ElfWritesUptoSaid :=
  OpenClaim.holds_of_cond 7 Try.f7 rfl rfl rfl rfl rfl rfl rfl ⟨rfl, rfl, rfl, rfl, rfl⟩ rfl rfl rfl rfl rfl (by kernel_rfl) Try.func7 (by kernel_rfl)
    (of_decide_eq_true (by kernel_rfl)) (by unfold Func.isWrapper; first | (rw [if_pos (by decide +kernel)]; kernel_rfl) | (rw [if_neg (by decide +kernel)]; exact ⟨rfl, rfl⟩))
    (fun os started H enc _ F => lifted_elfWrites os started H enc F)
#print axioms proved
end Go.Proofs.Ytpgipjjhapapjaa.elfw
