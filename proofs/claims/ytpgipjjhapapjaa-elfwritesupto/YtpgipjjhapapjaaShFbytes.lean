/- Shadow functions of bytes, written by tr.py. -/
import Derived.Test.YtpgipjjhapapjaaShBa
namespace Go.Sh
/-- bytes.Clone -/
def F198_bytes_Clone : SFn := ⟨1, true, true, [.tmp 2],
  .seq
   (.region [⟨some 2, none, .mov (.c (.d (.sl 0 false [])))⟩] false [])
   (.keep [0] (.seq
   (.seq
    (.region [⟨some 3, none, .mov (.t 0)⟩,
     ⟨some 4, none, .eqv false [11] (.t 3) (.c (.d (.sl 0 false [])))⟩] false [])
    (.keep [0, 4] (.cond (.t 4)
    (.keep [] (.seq
     (.region [⟨some 2, none, .mov (.c (.d (.sl 0 false [])))⟩] false [])
     (.ret)))
    (.skip))))
   (.keep [0] (.seq
    (.region [⟨some 5, none, .litsO 0 [.i .u8 0] []⟩,
     ⟨some 6, none, .mov (.t 0)⟩,
     ⟨some 7, none, .app 1 1 (.t 5) (.t 6)⟩,
     ⟨some 2, none, .mov (.t 7)⟩] false [])
    (.ret)))))⟩
end Go.Sh
