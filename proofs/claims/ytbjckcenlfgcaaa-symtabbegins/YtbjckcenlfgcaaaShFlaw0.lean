/- Shadow functions of law0, written by tr.py. -/
import Derived.Test.YtbjckcenlfgcaaaShBa
namespace Go.Sh
/-- spindle/spindlelaw0.Num -/
def F12_spindlelaw0_Num : SFn := ⟨1, true, true, [.tmp 2],
  .seq
   (.region [⟨some 2, none, .mov (.c (.d (.i .i64 0)))⟩] false [])
   (.keep [0] (.seq
   (.region [⟨some 3, none, .mov (.t 0)⟩,
    ⟨some 2, none, .mov (.t 3)⟩] false [])
   (.ret)))⟩

/-- spindle/spindlelaw0.CopyBytes -/
def F35_spindlelaw0_CopyBytes : SFn := ⟨1, true, true, [.tmp 2],
  .seq
   (.region [⟨some 2, none, .mov (.c (.d (.sl 0 false [])))⟩] false [])
   (.keep [0] (.seq
   (.region [⟨some 3, none, .litsO 0 [.i .u8 0] []⟩,
    ⟨some 4, none, .mov (.t 0)⟩,
    ⟨some 5, none, .app 1 1 (.t 3) (.t 4)⟩,
    ⟨some 2, none, .mov (.t 5)⟩] false [])
   (.ret)))⟩
end Go.Sh
