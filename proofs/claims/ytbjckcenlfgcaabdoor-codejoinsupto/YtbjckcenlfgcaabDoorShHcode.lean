/- The seat's functions are those of the packages isa and code. -/
import Derived.Test.YtbjckcenlfgcaabDoorShGcode
import Derived.Test.YtbjckcenlfgcaabDoorShEisaA
import Derived.Test.YtbjckcenlfgcaabDoorShLcodeG
set_option linter.unusedVariables false
namespace Go.Proofs.YtbjckcenlfgcaabDoor.code
open Go.Sh
theorem hI : IsaOk pr := isaOk (by
    intro x hx
    simp only [isaFns, List.mem_cons, List.not_mem_nil, or_false] at hx
    rcases hx with rfl | rfl | rfl | rfl | rfl <;> rfl) (by
    intro x hx
    simp only [evFns, List.mem_cons, List.not_mem_nil, or_false] at hx
    rcases hx with rfl | rfl | rfl | rfl <;> rfl) fun _ _ h => h
theorem hp : Sub codeFns pr := by
  intro x hx
  simp only [codeFns, List.mem_cons, List.not_mem_nil, or_false] at hx
  rcases hx with rfl | rfl | rfl | rfl | rfl | rfl | rfl <;> rfl
theorem hq : Sub law3Fns pr := by
  intro x hx
  simp only [law3Fns, List.mem_cons, List.not_mem_nil, or_false] at hx
  rcases hx with rfl | rfl | rfl | rfl | rfl | rfl | rfl | rfl <;> rfl
theorem hj : Sub joinFns pr := by
  intro x hx
  simp only [joinFns, List.mem_cons, List.not_mem_nil, or_false] at hx
  rcases hx with rfl | rfl | rfl <;> rfl
end Go.Proofs.YtbjckcenlfgcaabDoor.code
