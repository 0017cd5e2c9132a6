/- Part of the proof. -/
import Derived.Test.YtpgipjjhapapjaaShBa
namespace Go.Sh
def F105:SFn:=⟨2,true,true,[.tmp 4],
  .seq (.region [⟨some 4,none,.mov (.c (.d (.b false)))⟩] false []) (.keep [0,1] (.seq (.region [⟨some 5,none,.mov (.t 0)⟩,⟨some 6,none,.call 115 [.t 5]⟩,⟨some 7,none,.mov (.t 6)⟩,⟨some 8,(some (2,true)),.mov (.t 1)⟩,⟨some 9,(some (2,true)),.call 115 [.t 8]⟩,⟨some 10,(some (2,true)),.un .not (.t 9)⟩,⟨some 11,none,.pick (.t 7) (.t 10) (.c (.d (.b false)))⟩,⟨some 12,none,.mov (.t 11)⟩,⟨some 13,(some (7,false)),.mov (.t 0)⟩,⟨some 14,(some (7,false)),.mov (.t 1)⟩,⟨some 15,(some (7,false)),.bin .lss (.t 13) (.t 14)⟩,⟨some 16,none,.pick (.t 12) (.c (.d (.b true))) (.t 15)⟩,⟨some 4,none,.mov (.t 16)⟩] false []) .ret))⟩
def F115:SFn:=⟨1,true,true,[.tmp 2],
  .seq (.region [⟨some 2,none,.mov (.c (.d (.b false)))⟩] false []) (.keep [0] (.seq (.region [⟨some 3,none,.mov (.t 0)⟩,⟨some 4,none,.mov (.t 0)⟩,⟨some 5,none,.bin .neq (.t 3) (.t 4)⟩,⟨some 2,none,.mov (.t 5)⟩] false []) .ret))⟩
end Go.Sh
