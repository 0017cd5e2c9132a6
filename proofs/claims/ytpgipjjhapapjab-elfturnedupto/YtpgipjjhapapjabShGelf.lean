/- The seat's functions are those of the laws of layer 9. -/
import Derived.Test.YtpgipjjhapapjabShLelf6
import Derived.Test.YtpgipjjhapapjabShTelf
import Derived.Test.YtpgipjjhapapjabShBe
set_option linter.unusedVariables false
namespace Go.Proofs.Ytpgipjjhapapjab.elf
open Go.Sh
theorem hp : Sub elfFns pr := by
  intro x hx
  simp only [elfFns, List.mem_cons, List.not_mem_nil, or_false] at hx
  rcases hx with rfl | rfl | rfl | rfl | rfl | rfl | rfl | rfl | rfl | rfl | rfl | rfl | rfl | rfl | rfl | rfl | rfl | rfl | rfl <;> rfl
theorem hr : Sub ref9Fns pr := by
  intro x hx
  simp only [ref9Fns, List.mem_cons, List.not_mem_nil, or_false] at hx
  rcases hx with rfl | rfl | rfl | rfl <;> rfl
theorem hLaw : Sub law9Fns pr := by
  intro x hx
  simp only [law9Fns, List.mem_cons, List.not_mem_nil, or_false] at hx
  rcases hx with rfl | rfl | rfl | rfl | rfl | rfl <;> rfl
theorem hs : Sub strsFns pr := by
  intro x hx
  simp only [strsFns, List.mem_cons, List.not_mem_nil, or_false] at hx
  rcases hx with rfl | rfl | rfl | rfl | rfl | rfl | rfl | rfl | rfl | rfl | rfl | rfl | rfl <;> rfl
theorem hq : SubP strsPrims pr := by
  intro x hx
  simp only [strsPrims, List.mem_cons, List.not_mem_nil, or_false] at hx
  rcases hx with rfl | rfl | rfl <;> exact ⟨rfl, rfl⟩
end Go.Proofs.Ytpgipjjhapapjab.elf
