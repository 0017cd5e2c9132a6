/- Part of the proof. -/
import Derived.Test.YtidigkielipghaaGreatDoorShLnmQ
import Derived.Test.YtidigkielipghaaGreatDoorShBe
import Derived.Test.YtidigkielipghaaGreatDoorShFlaw15
set_option linter.unusedVariables false
set_option linter.unusedSimpArgs false
set_option linter.unusedSectionVars false
namespace Go.Sh
theorem SlD.ep {sz:Nat}{v:V}{els:List (List D)}(h:SlD sz v els)(i:Nat):∃ cs,elP sz v i 0= .ep cs:=by
  obtain⟨_,nz,rfl⟩:=h
  exact⟨_,rfl⟩
end Go.Sh
