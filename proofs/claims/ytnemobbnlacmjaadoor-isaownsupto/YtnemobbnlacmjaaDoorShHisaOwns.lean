/- The seat's functions that IsaOwns reaches. -/
import Derived.Test.YtnemobbnlacmjaaDoorShGisaOwns
import Derived.Test.YtnemobbnlacmjaaDoorShEisaA
import Derived.Test.YtnemobbnlacmjaaDoorShEisaB
import Derived.Test.YtnemobbnlacmjaaDoorShLnuP
import Derived.Test.YtnemobbnlacmjaaDoorShBe
set_option linter.unusedVariables false
namespace Go.Proofs.YtnemobbnlacmjaaDoor.isaOwns
open Go.Sh
theorem hI : IsaOk pr := isaOk (by
    intro x hx
    simp only [isaFns, List.mem_cons, List.not_mem_nil, or_false] at hx
    rcases hx with rfl | rfl | rfl | rfl | rfl <;> rfl) (by
    intro x hx
    simp only [evFns, List.mem_cons, List.not_mem_nil, or_false] at hx
    rcases hx with rfl | rfl | rfl | rfl <;> rfl) fun _ _ h => h
theorem hR : RefOk pr := refOk (by
    intro x hx
    simp only [refFns, List.mem_cons, List.not_mem_nil, or_false] at hx
    rcases hx with rfl | rfl | rfl | rfl <;> rfl) (by
    intro x hx
    simp only [evFnsR, List.mem_cons, List.not_mem_nil, or_false] at hx
    rcases hx with rfl | rfl | rfl | rfl | rfl <;> rfl)
theorem hp : Sub regFns pr := by
  intro x hx
  simp only [regFns, List.mem_cons, List.not_mem_nil, or_false] at hx
  rcases hx with rfl | rfl | rfl | rfl | rfl | rfl | rfl | rfl | rfl | rfl | rfl <;> rfl
theorem hr : Sub rrefFns pr := by
  intro x hx
  simp only [rrefFns, List.mem_cons, List.not_mem_nil, or_false] at hx
  rcases hx with rfl | rfl | rfl | rfl | rfl <;> rfl
theorem hq : Sub rowNFns pr := by
  intro x hx
  simp only [rowNFns, List.mem_cons, List.not_mem_nil, or_false] at hx
  rcases hx with rfl | rfl | rfl | rfl <;> rfl
theorem hn : Sub nuFns pr := by
  intro x hx
  simp only [nuFns, List.mem_cons, List.not_mem_nil, or_false] at hx
  rcases hx with rfl | rfl | rfl | rfl | rfl | rfl | rfl | rfl | rfl | rfl <;> rfl
theorem hAw : Sub awFns pr := by
  intro x hx
  simp only [awFns, List.mem_cons, List.not_mem_nil, or_false] at hx
  rcases hx with rfl <;> rfl
theorem hLaw : Sub lawOFns pr := by
  intro x hx
  simp only [lawOFns, List.mem_cons, List.not_mem_nil, or_false] at hx
  rcases hx with rfl | rfl <;> rfl
end Go.Proofs.YtnemobbnlacmjaaDoor.isaOwns
