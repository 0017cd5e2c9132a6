/- The seat's functions are those of the package isa; arguments that are instructions. -/
import Derived.Test.YtbjckcenlfgcaaaDoorShGisaMay
import Derived.Test.YtbjckcenlfgcaaaDoorShEisa
import Derived.Test.YtbjckcenlfgcaaaDoorShLisaMayLaw
set_option linter.unusedVariables false
namespace Go.Proofs.YtbjckcenlfgcaaaDoor.isaMay
open Go.Sh
theorem hI : IsaOk pr := isaOk (by
    intro x hx
    simp only [mayFns, List.mem_cons, List.not_mem_nil, or_false] at hx
    rcases hx with rfl | rfl | rfl | rfl | rfl | rfl | rfl | rfl | rfl <;> rfl) (by
    intro x hx
    simp only [evFns, List.mem_cons, List.not_mem_nil, or_false] at hx
    rcases hx with rfl | rfl | rfl | rfl | rfl | rfl | rfl | rfl | rfl <;> rfl) fun _ _ h => h
theorem hq : Sub law2Fns pr := by
  intro x hx
  simp only [law2Fns, List.mem_cons, List.not_mem_nil, or_false] at hx
  rcases hx with rfl | rfl | rfl <;> rfl
end Go.Proofs.YtbjckcenlfgcaaaDoor.isaMay
