/- Part of the proof. -/
import Derived.Test.YtpgipjjhapapjaaShBa
namespace Go.Sh
def F150:SFn:=⟨2,true,true,[.tmp 4],
  .seq (.region [⟨some 4,none,.mov (.c (.d (.i .i64 0)))⟩] false []) (.keep [0,1] (.seq (.region [⟨some 5,none,.mov (.t 0)⟩,⟨some 6,none,.mov (.t 1)⟩,⟨some 7,none,.call 153 [.t 5,.t 6]⟩,⟨some 4,none,.mov (.t 7)⟩] false []) .ret))⟩
def F151:SFn:=⟨1,true,true,[.tmp 2],
  .seq (.region [⟨some 2,none,.mov (.c (.d (.s [])))⟩] false []) (.keep [0] (.seq (.region [⟨some 3,none,.mov (.t 0)⟩,⟨some 4,none,.call 154 [.t 3]⟩,⟨some 2,none,.mov (.t 4)⟩] false []) .ret))⟩
end Go.Sh
