/- Shadow functions of law0, written by tr.py. -/
import Derived.Test.YtbjckcenlfgcaaaShBa
namespace Go.Sh
/-- spindle/spindlelaw0.CopyInsns -/
def F7_spindlelaw0_CopyInsns : SFn := ⟨1, true, true, [.tmp 2],
  .seq
   (.region [⟨some 2, none, .mov (.c (.d (.sl 0 false [])))⟩] false [])
   (.keep [0] (.seq
   (.region [⟨some 3, none, .litsO 0 [.i .i64 0, .i .i64 0, .i .i64 0, .i .i64 0, .i .i64 0] []⟩,
    ⟨some 4, none, .mov (.t 0)⟩,
    ⟨some 5, none, .app 5 40 (.t 3) (.t 4)⟩,
    ⟨some 2, none, .mov (.t 5)⟩] false [])
   (.ret)))⟩

def F9_spindlelaw0_SameInsns_b0 : SCode :=
  .seq
      (.seq
      (.region [⟨some 11, none, .mov (.t 5)⟩,
       ⟨some 12, none, .mov (.t 0)⟩,
       ⟨some 13, none, .len false (.t 12)⟩,
       ⟨some 14, none, .bin .lss (.t 11) (.t 13)⟩] false [])
      (.keep [0, 1, 5, 14] (.cond (.t 14)
       (.skip)
       (.exit 0))))
      (.keep [0, 1, 5] (.seq
      (.block 1 (.seq
       (.region [⟨some 17, none, .mov (.t 0)⟩,
        ⟨some 18, none, .mov (.t 5)⟩,
        ⟨some 19, none, .iaddr 5 (.t 17) (.t 18)⟩,
        ⟨some 20, none, .load 5 true (.t 19)⟩,
        ⟨some 21, none, .mov (.t 1)⟩,
        ⟨some 22, none, .mov (.t 5)⟩,
        ⟨some 23, none, .iaddr 5 (.t 21) (.t 22)⟩,
        ⟨some 24, none, .load 5 true (.t 23)⟩,
        ⟨some 25, none, .eqv true [9, 0, 0, 0, 0, 0] (.t 20) (.t 24)⟩] true [0, 0, 3, 7, 0, 0, 48, 112, 255])
       (.keep [0, 1, 5, 25] (.cond (.t 25)
        (.keep [] (.seq
        (.region [⟨some 4, none, .mov (.c (.d (.b false)))⟩] false [])
        (.ret)))
        (.skip)))))
      (.keep [0, 1, 5] (.region [⟨some 15, none, .mov (.t 5)⟩,
       ⟨some 16, none, .bin .add (.t 15) (.c (.d (.i .i64 1)))⟩,
       ⟨some 5, none, .mov (.t 16)⟩] false []))))
/-- spindle/spindlelaw0.SameInsns -/
def F9_spindlelaw0_SameInsns : SFn := ⟨2, true, true, [.tmp 4],
  .seq
   (.region [⟨some 4, none, .mov (.c (.d (.b false)))⟩] false [])
   (.keep [0, 1] (.seq
   (.seq
    (.region [⟨some 6, none, .mov (.t 0)⟩,
     ⟨some 7, none, .len false (.t 6)⟩,
     ⟨some 8, none, .mov (.t 1)⟩,
     ⟨some 9, none, .len false (.t 8)⟩,
     ⟨some 10, none, .bin .neq (.t 7) (.t 9)⟩] false [])
    (.keep [0, 1, 10] (.cond (.t 10)
    (.keep [] (.seq
     (.region [⟨some 4, none, .mov (.c (.d (.b false)))⟩] false [])
     (.ret)))
    (.skip))))
   (.keep [0, 1] (.seq
    (.seq
    (.region [⟨some 5, none, .mov (.c (.d (.i .i64 0)))⟩] false [])
    (.keep [0, 1, 5] (.block 0 (.loop [0, 1, 5] false F9_spindlelaw0_SameInsns_b0))))
    (.keep [] (.seq
    (.region [⟨some 4, none, .mov (.c (.d (.b true)))⟩] false [])
    (.ret)))))))⟩

/-- spindle/spindlelaw0.Num -/
def F12_spindlelaw0_Num : SFn := ⟨1, true, true, [.tmp 2],
  .seq
   (.region [⟨some 2, none, .mov (.c (.d (.i .i64 0)))⟩] false [])
   (.keep [0] (.seq
   (.region [⟨some 3, none, .mov (.t 0)⟩,
    ⟨some 2, none, .mov (.t 3)⟩] false [])
   (.ret)))⟩

def F16_spindlelaw0_SameInts_b0 : SCode :=
  .seq
      (.seq
      (.region [⟨some 11, none, .mov (.t 5)⟩,
       ⟨some 12, none, .mov (.t 0)⟩,
       ⟨some 13, none, .len false (.t 12)⟩,
       ⟨some 14, none, .bin .lss (.t 11) (.t 13)⟩] false [])
      (.keep [0, 1, 5, 14] (.cond (.t 14)
       (.skip)
       (.exit 0))))
      (.keep [0, 1, 5] (.seq
      (.block 1 (.seq
       (.region [⟨some 17, none, .mov (.t 0)⟩,
        ⟨some 18, none, .mov (.t 5)⟩,
        ⟨some 19, none, .iaddr 1 (.t 17) (.t 18)⟩,
        ⟨some 20, none, .load 1 false (.t 19)⟩,
        ⟨some 21, none, .mov (.t 1)⟩,
        ⟨some 22, none, .mov (.t 5)⟩,
        ⟨some 23, none, .iaddr 1 (.t 21) (.t 22)⟩,
        ⟨some 24, none, .load 1 false (.t 23)⟩,
        ⟨some 25, none, .bin .neq (.t 20) (.t 24)⟩] true [0, 0, 3, 7, 0, 0, 48, 112, 255])
       (.keep [0, 1, 5, 25] (.cond (.t 25)
        (.keep [] (.seq
        (.region [⟨some 4, none, .mov (.c (.d (.b false)))⟩] false [])
        (.ret)))
        (.skip)))))
      (.keep [0, 1, 5] (.region [⟨some 15, none, .mov (.t 5)⟩,
       ⟨some 16, none, .bin .add (.t 15) (.c (.d (.i .i64 1)))⟩,
       ⟨some 5, none, .mov (.t 16)⟩] false []))))
/-- spindle/spindlelaw0.SameInts -/
def F16_spindlelaw0_SameInts : SFn := ⟨2, true, true, [.tmp 4],
  .seq
   (.region [⟨some 4, none, .mov (.c (.d (.b false)))⟩] false [])
   (.keep [0, 1] (.seq
   (.seq
    (.region [⟨some 6, none, .mov (.t 0)⟩,
     ⟨some 7, none, .len false (.t 6)⟩,
     ⟨some 8, none, .mov (.t 1)⟩,
     ⟨some 9, none, .len false (.t 8)⟩,
     ⟨some 10, none, .bin .neq (.t 7) (.t 9)⟩] false [])
    (.keep [0, 1, 10] (.cond (.t 10)
    (.keep [] (.seq
     (.region [⟨some 4, none, .mov (.c (.d (.b false)))⟩] false [])
     (.ret)))
    (.skip))))
   (.keep [0, 1] (.seq
    (.seq
    (.region [⟨some 5, none, .mov (.c (.d (.i .i64 0)))⟩] false [])
    (.keep [0, 1, 5] (.block 0 (.loop [0, 1, 5] false F16_spindlelaw0_SameInts_b0))))
    (.keep [] (.seq
    (.region [⟨some 4, none, .mov (.c (.d (.b true)))⟩] false [])
    (.ret)))))))⟩

/-- spindle/spindlelaw0.CopyBytes -/
def F35_spindlelaw0_CopyBytes : SFn := ⟨1, true, true, [.tmp 2],
  .seq
   (.region [⟨some 2, none, .mov (.c (.d (.sl 0 false [])))⟩] false [])
   (.keep [0] (.seq
   (.region [⟨some 3, none, .litsO 0 [.i .u8 0] []⟩,
    ⟨some 4, none, .mov (.t 0)⟩,
    ⟨some 5, none, .app 1 1 (.t 3) (.t 4)⟩,
    ⟨some 2, none, .mov (.t 5)⟩] false [])
   (.ret)))⟩

/-- spindle/spindlelaw0.SameBytes -/
def F73_spindlelaw0_SameBytes : SFn := ⟨2, true, true, [.tmp 4],
  .seq
   (.region [⟨some 4, none, .mov (.c (.d (.b false)))⟩] false [])
   (.keep [0, 1] (.seq
   (.region [⟨some 5, none, .mov (.t 0)⟩,
    ⟨some 6, none, .b2s (.t 5)⟩,
    ⟨some 7, none, .mov (.t 1)⟩,
    ⟨some 8, none, .b2s (.t 7)⟩,
    ⟨some 9, none, .bin .eql (.t 6) (.t 8)⟩,
    ⟨some 4, none, .mov (.t 9)⟩] false [])
   (.ret)))⟩

/-- spindle/spindlelaw0.CopyInsns!own -/
def F80_spindlelaw0_CopyInsns_own : SFn := ⟨1, false, false, [.tmp 2],
  .seq
   (.region [⟨some 2, none, .mov (.c (.d (.sl 0 false [])))⟩] false [])
   (.keep [0] (.seq
   (.region [⟨some 3, none, .litsO 0 [.i .i64 0, .i .i64 0, .i .i64 0, .i .i64 0, .i .i64 0] []⟩,
    ⟨some 4, none, .mov (.t 0)⟩,
    ⟨some 5, none, .app 5 40 (.t 3) (.t 4)⟩,
    ⟨some 2, none, .mov (.t 5)⟩] false [])
   (.ret)))⟩

/-- spindle/spindlelaw0.CopyBytes!own -/
def F81_spindlelaw0_CopyBytes_own : SFn := ⟨1, false, false, [.tmp 2],
  .seq
   (.region [⟨some 2, none, .mov (.c (.d (.sl 0 false [])))⟩] false [])
   (.keep [0] (.seq
   (.region [⟨some 3, none, .litsO 0 [.i .u8 0] []⟩,
    ⟨some 4, none, .mov (.t 0)⟩,
    ⟨some 5, none, .app 1 1 (.t 3) (.t 4)⟩,
    ⟨some 2, none, .mov (.t 5)⟩] false [])
   (.ret)))⟩
end Go.Sh
