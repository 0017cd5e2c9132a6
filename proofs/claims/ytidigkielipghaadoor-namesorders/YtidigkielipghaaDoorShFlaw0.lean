/- Shadow functions of law0, written by tr.py. -/
import Derived.Test.YtidigkielipghaaDoorShBa
namespace Go.Sh
/-- spindle/spindlelaw0.CopyInsns -/
def F7_spindlelaw0_CopyInsns : SFn := ⟨1, true, true, [.tmp 2],
  .seq
   (.region [⟨some 2, none, .mov (.c (.d (.sl 0 false [])))⟩] false [])
   (.keep [0] (.seq
   (.region [⟨some 3, none, .litsO 0 [.i .i64 0, .i .i64 0, .i .i64 0, .i .i64 0, .i .i64 0] []⟩,
    ⟨some 4, none, .mov (.t 0)⟩,
    ⟨some 5, none, .app 5 40 (.t 3) (.t 4)⟩,
    ⟨some 2, none, .mov (.t 5)⟩] false [])
   (.ret)))⟩

/-- spindle/spindlelaw0.Num -/
def F12_spindlelaw0_Num : SFn := ⟨1, true, true, [.tmp 2],
  .seq
   (.region [⟨some 2, none, .mov (.c (.d (.i .i64 0)))⟩] false [])
   (.keep [0] (.seq
   (.region [⟨some 3, none, .mov (.t 0)⟩,
    ⟨some 2, none, .mov (.t 3)⟩] false [])
   (.ret)))⟩

/-- spindle/spindlelaw0.CopyObject -/
def F317_spindlelaw0_CopyObject : SFn := ⟨1, true, true, [.cell 2 5 true],
  .seq
   (.region [⟨some 1, none, .box (.t 0)⟩,
    ⟨some 2, none, .alloc [.sl 0 false [], .sl 0 false [], .sl 0 false [], .sl 0 false [], .sl 0 false []]⟩] false [])
   (.keep [1, 2] (.seq
   (.region [⟨some 3, none, .faddr 0 (.t 1)⟩,
    ⟨some 4, none, .load 1 false (.t 3)⟩,
    ⟨some 5, none, .call 7 [.t 4]⟩,
    ⟨some 6, none, .faddr 1 (.t 1)⟩,
    ⟨some 7, none, .load 1 false (.t 6)⟩,
    ⟨some 8, none, .call 326 [.t 7]⟩,
    ⟨some 9, none, .faddr 2 (.t 1)⟩,
    ⟨some 10, none, .load 1 false (.t 9)⟩,
    ⟨some 11, none, .call 327 [.t 10]⟩,
    ⟨some 12, none, .faddr 3 (.t 1)⟩,
    ⟨some 13, none, .load 1 false (.t 12)⟩,
    ⟨some 14, none, .call 328 [.t 13]⟩,
    ⟨some 15, none, .faddr 4 (.t 1)⟩,
    ⟨some 16, none, .load 1 false (.t 15)⟩,
    ⟨some 17, none, .call 329 [.t 16]⟩,
    ⟨some 18, none, .build [.sl 0 false [], .sl 0 false [], .sl 0 false [], .sl 0 false [], .sl 0 false []] [(0, 1, .t 5), (1, 1, .t 8), (2, 1, .t 11), (3, 1, .t 14), (4, 1, .t 17)]⟩,
    ⟨none, none, .store 5 (.t 2) (.t 18)⟩] true [0, 1, 3, 0, 8, 31, 0, 64, 255, 0, 512, 2047, 0, 4096, 16383, 32767, 65535])
   (.ret)))⟩

def F319_spindlelaw0_CopyObjects_b0 : SCode :=
  .seq
      (.seq
      (.region [⟨some 5, none, .mov (.t 4)⟩,
       ⟨some 6, none, .mov (.t 0)⟩,
       ⟨some 7, none, .len false (.t 6)⟩,
       ⟨some 8, none, .bin .lss (.t 5) (.t 7)⟩] false [])
      (.keep [0, 3, 4, 8] (.cond (.t 8)
       (.skip)
       (.exit 0))))
      (.keep [0, 3, 4] (.seq
      (.block 1 (.region [⟨some 11, none, .mov (.t 3)⟩,
        ⟨some 12, none, .mov (.t 0)⟩,
        ⟨some 13, none, .mov (.t 4)⟩,
        ⟨some 14, none, .iaddr 5 (.t 12) (.t 13)⟩,
        ⟨some 15, none, .load 5 true (.t 14)⟩,
        ⟨some 16, none, .call 317 [.t 15]⟩,
        ⟨some 17, none, .lits 1 [.sl 0 false [], .sl 0 false [], .sl 0 false [], .sl 0 false [], .sl 0 false []] [(0, 5, .t 16)]⟩,
        ⟨some 18, none, .app 5 120 (.t 11) (.t 17)⟩,
        ⟨some 3, none, .mov (.t 18)⟩] false []))
      (.keep [0, 3, 4] (.region [⟨some 9, none, .mov (.t 4)⟩,
       ⟨some 10, none, .bin .add (.t 9) (.c (.d (.i .i64 1)))⟩,
       ⟨some 4, none, .mov (.t 10)⟩] false []))))
/-- spindle/spindlelaw0.CopyObjects -/
def F319_spindlelaw0_CopyObjects : SFn := ⟨1, true, true, [.tmp 2],
  .seq
   (.region [⟨some 2, none, .mov (.c (.d (.sl 0 false [])))⟩] false [])
   (.keep [0] (.seq
   (.region [⟨some 3, none, .tok 5 (.c (.d (.sl 0 false [])))⟩] false [])
   (.keep [0, 3] (.seq
    (.seq
    (.region [⟨some 4, none, .mov (.c (.d (.i .i64 0)))⟩] false [])
    (.keep [0, 3, 4] (.block 0 (.loop [0, 3, 4] false F319_spindlelaw0_CopyObjects_b0))))
    (.keep [3] (.seq
    (.region [⟨some 19, none, .mov (.t 3)⟩,
     ⟨some 2, none, .mov (.t 19)⟩] false [])
    (.ret)))))))⟩

def F321_spindlelaw0_SameTables_b0 : SCode :=
  .seq
      (.seq
      (.region [⟨some 11, none, .mov (.t 5)⟩,
       ⟨some 12, none, .mov (.t 0)⟩,
       ⟨some 13, none, .len false (.t 12)⟩,
       ⟨some 14, none, .bin .lss (.t 11) (.t 13)⟩] false [])
      (.keep [0, 1, 5, 14] (.cond (.t 14)
       (.skip)
       (.exit 0))))
      (.keep [0, 1, 5] (.seq
      (.block 1 (.seq
       (.region [⟨some 17, none, .mov (.t 0)⟩,
        ⟨some 18, none, .mov (.t 5)⟩,
        ⟨some 19, none, .iaddr 5 (.t 17) (.t 18)⟩,
        ⟨some 20, none, .load 5 true (.t 19)⟩,
        ⟨some 21, none, .mov (.t 1)⟩,
        ⟨some 22, none, .mov (.t 5)⟩,
        ⟨some 23, none, .iaddr 5 (.t 21) (.t 22)⟩,
        ⟨some 24, none, .load 5 true (.t 23)⟩,
        ⟨some 25, none, .eqv true [9, 2, 0, 0, 0, 0] (.t 20) (.t 24)⟩] true [0, 0, 3, 7, 0, 0, 48, 112, 255])
       (.keep [0, 1, 5, 25] (.cond (.t 25)
        (.keep [] (.seq
        (.region [⟨some 4, none, .mov (.c (.d (.b false)))⟩] false [])
        (.ret)))
        (.skip)))))
      (.keep [0, 1, 5] (.region [⟨some 15, none, .mov (.t 5)⟩,
       ⟨some 16, none, .bin .add (.t 15) (.c (.d (.i .i64 1)))⟩,
       ⟨some 5, none, .mov (.t 16)⟩] false []))))
/-- spindle/spindlelaw0.SameTables -/
def F321_spindlelaw0_SameTables : SFn := ⟨2, true, true, [.tmp 4],
  .seq
   (.region [⟨some 4, none, .mov (.c (.d (.b false)))⟩] false [])
   (.keep [0, 1] (.seq
   (.seq
    (.region [⟨some 6, none, .mov (.t 0)⟩,
     ⟨some 7, none, .len false (.t 6)⟩,
     ⟨some 8, none, .mov (.t 1)⟩,
     ⟨some 9, none, .len false (.t 8)⟩,
     ⟨some 10, none, .bin .neq (.t 7) (.t 9)⟩] false [])
    (.keep [0, 1, 10] (.cond (.t 10)
    (.keep [] (.seq
     (.region [⟨some 4, none, .mov (.c (.d (.b false)))⟩] false [])
     (.ret)))
    (.skip))))
   (.keep [0, 1] (.seq
    (.seq
    (.region [⟨some 5, none, .mov (.c (.d (.i .i64 0)))⟩] false [])
    (.keep [0, 1, 5] (.block 0 (.loop [0, 1, 5] false F321_spindlelaw0_SameTables_b0))))
    (.keep [] (.seq
    (.region [⟨some 4, none, .mov (.c (.d (.b true)))⟩] false [])
    (.ret)))))))⟩

/-- spindle/spindlelaw0.CopyObjFuncs -/
def F326_spindlelaw0_CopyObjFuncs : SFn := ⟨1, true, true, [.tmp 2],
  .seq
   (.region [⟨some 2, none, .mov (.c (.d (.sl 0 false [])))⟩] false [])
   (.keep [0] (.seq
   (.region [⟨some 3, none, .litsO 0 [.s [], .b false, .i .i64 0, .i .i64 0] []⟩,
    ⟨some 4, none, .mov (.t 0)⟩,
    ⟨some 5, none, .app 4 40 (.t 3) (.t 4)⟩,
    ⟨some 2, none, .mov (.t 5)⟩] false [])
   (.ret)))⟩

/-- spindle/spindlelaw0.CopyTables -/
def F327_spindlelaw0_CopyTables : SFn := ⟨1, true, true, [.tmp 2],
  .seq
   (.region [⟨some 2, none, .mov (.c (.d (.sl 0 false [])))⟩] false [])
   (.keep [0] (.seq
   (.region [⟨some 3, none, .litsO 0 [.s [], .i .i64 0, .i .i64 0, .i .i64 0, .i .i64 0] []⟩,
    ⟨some 4, none, .mov (.t 0)⟩,
    ⟨some 5, none, .app 5 48 (.t 3) (.t 4)⟩,
    ⟨some 2, none, .mov (.t 5)⟩] false [])
   (.ret)))⟩

/-- spindle/spindlelaw0.CopyTexts -/
def F328_spindlelaw0_CopyTexts : SFn := ⟨1, true, true, [.tmp 2],
  .seq
   (.region [⟨some 2, none, .mov (.c (.d (.sl 0 false [])))⟩] false [])
   (.keep [0] (.seq
   (.region [⟨some 3, none, .litsO 0 [.s []] []⟩,
    ⟨some 4, none, .mov (.t 0)⟩,
    ⟨some 5, none, .app 1 16 (.t 3) (.t 4)⟩,
    ⟨some 2, none, .mov (.t 5)⟩] false [])
   (.ret)))⟩

/-- spindle/spindlelaw0.CopyRelocs -/
def F329_spindlelaw0_CopyRelocs : SFn := ⟨1, true, true, [.tmp 2],
  .seq
   (.region [⟨some 2, none, .mov (.c (.d (.sl 0 false [])))⟩] false [])
   (.keep [0] (.seq
   (.region [⟨some 3, none, .litsO 0 [.i .i64 0, .i .i64 0, .i .i64 0] []⟩,
    ⟨some 4, none, .mov (.t 0)⟩,
    ⟨some 5, none, .app 3 24 (.t 3) (.t 4)⟩,
    ⟨some 2, none, .mov (.t 5)⟩] false [])
   (.ret)))⟩
end Go.Sh
