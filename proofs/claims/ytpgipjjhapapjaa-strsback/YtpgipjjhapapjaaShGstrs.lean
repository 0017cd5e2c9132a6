/- The seat's functions are those of the laws of layer 8; arguments that are lists of texts. -/
import Derived.Test.YtpgipjjhapapjaaShLstrsF
import Derived.Test.YtpgipjjhapapjaaShTstrs
import Derived.Test.YtpgipjjhapapjaaShBe
set_option linter.unusedVariables false
namespace Go.Proofs.Ytpgipjjhapapjaa.strs
open Go.Sh
theorem hp : Sub strsFns pr := by
  intro x hx
  simp only [strsFns, List.mem_cons, List.not_mem_nil, or_false] at hx
  rcases hx with rfl | rfl | rfl | rfl | rfl | rfl | rfl | rfl | rfl | rfl | rfl | rfl | rfl | rfl | rfl <;> rfl
theorem hq : SubP strsPrims pr := by
  intro x hx
  simp only [strsPrims, List.mem_cons, List.not_mem_nil, or_false] at hx
  rcases hx with rfl | rfl | rfl <;> exact ⟨rfl, rfl⟩
theorem hl : Sub law8Fns pr := by
  intro x hx
  simp only [law8Fns, List.mem_cons, List.not_mem_nil, or_false] at hx
  rcases hx with rfl | rfl | rfl | rfl <;> rfl
theorem strs_of : ∀ {els : List (List D)}, (∀ x ∈ els, Has .str x) → ∃ ns : List Nm, els = ns.map nmC ∧ ∀ s ∈ ns, s.length ≤ 140737488351232
  | [], _ => ⟨[], rfl, fun _ h => by cases h⟩
  | x :: els, h => by
    have hx := h x List.mem_cons_self
    simp only [Has] at hx
    obtain ⟨l, rfl, hl⟩ := hx
    obtain ⟨ns, rfl, hns⟩ := strs_of fun z hz => h z (List.mem_cons_of_mem _ hz)
    refine ⟨l :: ns, rfl, ?_⟩
    intro z hz
    cases hz with
    | head => exact hl
    | tail _ hz => exact hns z hz
end Go.Proofs.Ytpgipjjhapapjaa.strs
