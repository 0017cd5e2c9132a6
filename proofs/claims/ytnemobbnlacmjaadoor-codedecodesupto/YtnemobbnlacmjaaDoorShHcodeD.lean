/- The seat's functions that CodeDecodes reaches. -/
import Derived.Test.YtnemobbnlacmjaaDoorShGcodeD
import Derived.Test.YtnemobbnlacmjaaDoorShEisaA
import Derived.Test.YtnemobbnlacmjaaDoorShEisaB
import Derived.Test.YtnemobbnlacmjaaDoorShLcodeT
import Derived.Test.YtnemobbnlacmjaaDoorShBe
set_option linter.unusedVariables false
namespace Go.Proofs.YtnemobbnlacmjaaDoor.codeD
open Go.Sh
theorem hI : IsaOk pr := isaOk (by
    intro x hx
    simp only [isaFns, List.mem_cons, List.not_mem_nil, or_false] at hx
    rcases hx with rfl | rfl | rfl | rfl | rfl <;> rfl) (by
    intro x hx
    simp only [evFns, List.mem_cons, List.not_mem_nil, or_false] at hx
    rcases hx with rfl | rfl | rfl | rfl <;> rfl) fun _ _ h => h
theorem hR : RefOk pr := refOk (by
    intro x hx
    simp only [refFns, List.mem_cons, List.not_mem_nil, or_false] at hx
    rcases hx with rfl | rfl | rfl | rfl <;> rfl) (by
    intro x hx
    simp only [evFnsR, List.mem_cons, List.not_mem_nil, or_false] at hx
    rcases hx with rfl | rfl | rfl | rfl | rfl <;> rfl)
theorem hp : Sub codeFns pr := by
  intro x hx
  simp only [codeFns, List.mem_cons, List.not_mem_nil, or_false] at hx
  rcases hx with rfl | rfl | rfl | rfl | rfl | rfl | rfl <;> rfl
theorem hD : Sub refDFns pr := by
  intro x hx
  simp only [refDFns, List.mem_cons, List.not_mem_nil, or_false] at hx
  rcases hx with rfl | rfl | rfl | rfl <;> rfl
theorem hT : Sub turnBFns pr := by
  intro x hx
  simp only [turnBFns, List.mem_cons, List.not_mem_nil, or_false] at hx
  rcases hx with rfl | rfl <;> rfl
theorem hN : Sub lendFns pr := by
  intro x hx
  simp only [lendFns, List.mem_cons, List.not_mem_nil, or_false] at hx
  rcases hx with rfl | rfl | rfl <;> rfl
theorem hS : Sub shiFns pr := by
  intro x hx
  simp only [shiFns, List.mem_cons, List.not_mem_nil, or_false] at hx
  rcases hx with rfl | rfl | rfl | rfl | rfl | rfl | rfl | rfl | rfl | rfl <;> rfl
theorem hLaw : Sub lawDFns pr := by
  intro x hx
  simp only [lawDFns, List.mem_cons, List.not_mem_nil, or_false] at hx
  rcases hx with rfl | rfl | rfl <;> rfl
theorem haw (st : St) : den pr 69 [] st = some (.d (.b true), st) := den_awakeD hI hp hLaw
end Go.Proofs.YtnemobbnlacmjaaDoor.codeD
