/- The seat's functions are those of the package isa. -/
import Derived.Test.YtbjckcenlfgcaabDoorShGisaRow
import Derived.Test.YtbjckcenlfgcaabDoorShEisaA
import Derived.Test.YtbjckcenlfgcaabDoorShLisaRowLaw
set_option linter.unusedVariables false
namespace Go.Proofs.YtbjckcenlfgcaabDoor.row
open Go.Sh
theorem hI : IsaOk pr := isaOk (by
    intro x hx
    simp only [isaFns, List.mem_cons, List.not_mem_nil, or_false] at hx
    rcases hx with rfl | rfl | rfl | rfl | rfl <;> rfl) (by
    intro x hx
    simp only [evFns, List.mem_cons, List.not_mem_nil, or_false] at hx
    rcases hx with rfl | rfl | rfl | rfl <;> rfl) fun _ _ h => h
theorem hp : Sub regFns pr := by
  intro x hx
  simp only [regFns, List.mem_cons, List.not_mem_nil, or_false] at hx
  rcases hx with rfl | rfl | rfl | rfl | rfl | rfl | rfl | rfl | rfl | rfl | rfl <;> rfl
theorem hAw : Sub awFns pr := by
  intro x hx
  simp only [awFns, List.mem_cons, List.not_mem_nil, or_false] at hx
  rcases hx with rfl <;> rfl
theorem hRl : Sub lawRFns pr := by
  intro x hx
  simp only [lawRFns, List.mem_cons, List.not_mem_nil, or_false] at hx
  rcases hx with rfl | rfl | rfl <;> rfl
end Go.Proofs.YtbjckcenlfgcaabDoor.row
