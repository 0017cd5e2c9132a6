/- The seat's functions that CodeEncodes reaches. -/
import Derived.Test.YtbjckcenlfgcaabDoorShGcodeE
import Derived.Test.YtbjckcenlfgcaabDoorShEisaA
import Derived.Test.YtbjckcenlfgcaabDoorShEisaB
import Derived.Test.YtbjckcenlfgcaabDoorShLcodeO
import Derived.Test.YtbjckcenlfgcaabDoorShBe
set_option linter.unusedVariables false
namespace Go.Proofs.YtbjckcenlfgcaabDoor.codeE
open Go.Sh
theorem hI : IsaOk pr := isaOk (by
    intro x hx
    simp only [isaFns, List.mem_cons, List.not_mem_nil, or_false] at hx
    rcases hx with rfl | rfl | rfl | rfl | rfl <;> rfl) (by
    intro x hx
    simp only [evFns, List.mem_cons, List.not_mem_nil, or_false] at hx
    rcases hx with rfl | rfl | rfl | rfl <;> rfl) fun _ _ h => h
theorem hR : RefOk pr := refOk (by
    intro x hx
    simp only [refFns, List.mem_cons, List.not_mem_nil, or_false] at hx
    rcases hx with rfl | rfl | rfl | rfl <;> rfl) (by
    intro x hx
    simp only [evFnsR, List.mem_cons, List.not_mem_nil, or_false] at hx
    rcases hx with rfl | rfl | rfl | rfl | rfl <;> rfl)
theorem hp : Sub codeFns pr := by
  intro x hx
  simp only [codeFns, List.mem_cons, List.not_mem_nil, or_false] at hx
  rcases hx with rfl | rfl | rfl | rfl | rfl | rfl | rfl <;> rfl
theorem hq : Sub law3Fns pr := by
  intro x hx
  simp only [law3Fns, List.mem_cons, List.not_mem_nil, or_false] at hx
  rcases hx with rfl | rfl | rfl | rfl | rfl | rfl | rfl | rfl <;> rfl
theorem hB : Sub bookFns pr := by
  intro x hx
  simp only [bookFns, List.mem_cons, List.not_mem_nil, or_false] at hx
  rcases hx with rfl | rfl | rfl | rfl | rfl | rfl | rfl | rfl | rfl <;> rfl
theorem hD : Sub lendFns pr := by
  intro x hx
  simp only [lendFns, List.mem_cons, List.not_mem_nil, or_false] at hx
  rcases hx with rfl | rfl | rfl | rfl <;> rfl
theorem hE : Sub refEFns pr := by
  intro x hx
  simp only [refEFns, List.mem_cons, List.not_mem_nil, or_false] at hx
  rcases hx with rfl | rfl | rfl | rfl <;> rfl
theorem hLaw : Sub lawEFns pr := by
  intro x hx
  simp only [lawEFns, List.mem_singleton] at hx
  subst hx
  rfl
theorem haw (st : St) : den pr 69 [] st = some (.d (.b true), st) := den_awake3 hI hp hq
end Go.Proofs.YtbjckcenlfgcaabDoor.codeE
