/- 'CodeSlots' answers true for every list of instructions that may come in, and the list reads behind the call as it read before. No condition beyond the row's own. -/
import Derived.Test.YtgafhgbnjohbeaaShL1
import Derived.Test.YtgafhgbnjohbeaaRows
import Derived.ProofKit
set_option linter.unusedVariables false
namespace Go.Proofs.Ytgafhgbnjohbeaa.codeSlots
open Go.Sh Go.ChangeAt

def insTy : Ty := .agg [.int .i64, .int .i64, .int .i64, .int .i64, .int .i64]
theorem ins_of {el : List D} (h : Has insTy el) : ∃ x : Ins, el = x.cells := by
  simp only [insTy, Has, Hass] at h
  obtain ⟨_, _, rfl, ⟨a, rfl, _⟩, _, _, rfl, ⟨b, rfl, _⟩, _, _, rfl, ⟨c, rfl, _⟩, _, _, rfl, ⟨d, rfl, _⟩, _, _, rfl, ⟨e, rfl, _⟩, rfl⟩ := h
  exact ⟨⟨a, b, c, d, e⟩, rfl⟩
theorem inss_of : ∀ {els : List (List D)}, (∀ x ∈ els, Has insTy x) → ∃ is : List Ins, els = is.map Ins.cells
  | [], _ => ⟨[], rfl⟩
  | x :: els, h => by
    obtain ⟨y, rfl⟩ := ins_of (h x List.mem_cons_self)
    obtain ⟨is, rfl⟩ := inss_of fun z hz => h z (List.mem_cons_of_mem _ hz)
    exact ⟨y :: is, rfl⟩
theorem own : ownKnob Try.prog.godebug = none := by kernel_rfl
theorem laidOut : laidOutB Try.prog = true := by kernel_rfl
theorem globs (W : World) : Globs pr link W := fun name cells h => by cases h
theorem says : SaysTrue Rows.codeSlotsSpec 1 := ⟨rfl, fun H ds h => by
  match ds, h with
  | [d], _ => exact ⟨rfl, rfl, rfl⟩⟩
theorem all2_one {α β : Type} {R : α → β → Prop} {x : α} {ys : List β} (h : All2 R [x] ys) : ∃ y, ys = [y] ∧ R x y := by
  cases h with
  | cons h1 h2 => cases h2; exact ⟨_, rfl, h1⟩
set_option maxRecDepth 100000 in
theorem lifted (os : Os) (started : os.Started) (H : Type) (enc : TypeId × Value → H) :
    ReturnsInHanded {} Try.checked os 3 .any (Rows.codeSlotsSpec.pre6 enc Try.prog Try.f3 Rows.codeSlotsRow.domain false) (Rows.codeSlotsSpec.post enc Try.prog Try.f3 false true false false) := by
  refine returnsInHanded_of_change_sized (C := Try.checked) own started (by kernel_rfl) Try.func3
    (ChangeSpec.witness6 (enc := enc) (C := Try.checked) false ⟨#[], #[.slice none 0 0], []⟩ 8 (by kernel_rfl) (by kernel_rfl) (by kernel_rfl) (by kernel_rfl)) ?_
  intro W base args ds gs before hval hW _ hw _
  have hgs : gs = [] := by
    obtain ⟨_, _, _, hV, _⟩ := hW
    exact (Go.ChangeShapes.trodVars_none hV).1
  subst hgs
  have hw' : (DataW.weightsEach Try.prog Try.f3.params.toList ds).all (· ≤ reachBytes) = true := by
    have e : Rows.codeSlotsSpec.plain.varTypes Try.checked.prog = [] := rfl
    rw [e, List.append_nil, List.append_nil] at hw
    exact hw
  refine contractW (Pr := pr) (L := link) (F := 5) (tys := [.sl 40 insTy]) (tb := 4) laidOut tie (globs W) (by kernel_rfl) (by kernel_rfl) (by kernel_rfl) Try.underlying4 says hval hW hw' ?_
  intro dss ha _
  obtain ⟨ds', rfl, hh⟩ := all2_one ha
  simp only [Has] at hh
  obtain ⟨els, nz, rfl, hb, _, hel⟩ := hh
  obtain ⟨is, rfl⟩ := inss_of hel
  rw [List.length_map] at hb
  refine law_w _ st0 is ⟨?_, by simp, rfl⟩ (by omega) (Nat.le_refl _)
  intro x hx
  simp only [List.mem_map] at hx
  obtain ⟨y, _, rfl⟩ := hx
  rfl
theorem over : Rows.codeSlotsRow.holds Try.pinned (OpenSpec.ofChange Rows.codeSlotsSpec) :=
  OpenClaim.holds_of_wide 3 Try.f3 rfl rfl rfl rfl rfl rfl rfl ⟨rfl, rfl, rfl, rfl, rfl⟩ rfl rfl rfl rfl rfl (by kernel_rfl) Try.func3 (by kernel_rfl)
    (of_decide_eq_true (by kernel_rfl)) (by unfold Func.isWrapper; first | (rw [if_pos (by decide +kernel)]; kernel_rfl) | (rw [if_neg (by decide +kernel)]; exact ⟨rfl, rfl⟩))
    (fun os started H enc _ => lifted os started H enc)
theorem proved : Rows.CodeSlotsSaid := over
#print axioms proved
end Go.Proofs.Ytgafhgbnjohbeaa.codeSlots
