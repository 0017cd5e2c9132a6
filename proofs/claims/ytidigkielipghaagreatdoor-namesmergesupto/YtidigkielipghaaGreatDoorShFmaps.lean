/- Part of the proof. -/
import Derived.Test.YtidigkielipghaaGreatDoorShBa
namespace Go.Sh
def F332:SFn:=⟨1,false,false,[.tmp 2],
  .seq (.region [⟨some 1,none,.box (.t 0)⟩,⟨some 2,none,.mov (.c (.d (.nf)))⟩] false []) (.keep [1] (.seq (.region [⟨some 3,none,.mkFn 345 [.t 1]⟩,⟨some 2,none,.mov (.t 3)⟩] false []) .ret))⟩
end Go.Sh
