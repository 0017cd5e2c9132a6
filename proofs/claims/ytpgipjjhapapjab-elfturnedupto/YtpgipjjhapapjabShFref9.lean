/- Shadow functions of ref9, written by tr.py. -/
import Derived.Test.YtpgipjjhapapjabShBa
namespace Go.Sh
def F176_spindleref9_CopySections_b0 : SCode :=
  .seq
      (.seq
      (.region [⟨some 6, none, .mov (.t 4)⟩,
       ⟨some 7, none, .mov (.t 0)⟩,
       ⟨some 8, none, .len false (.t 7)⟩,
       ⟨some 9, none, .bin .lss (.t 6) (.t 8)⟩] false [])
      (.keep [0, 3, 4, 9] (.cond (.t 9)
       (.skip)
       (.exit 0))))
      (.keep [0, 3, 4] (.seq
      (.block 1 (.seq
       (.region [⟨some 12, none, .mov (.t 0)⟩,
        ⟨some 13, none, .mov (.t 4)⟩,
        ⟨some 14, none, .iaddr 8 (.t 12) (.t 13)⟩,
        ⟨some 15, none, .load 8 true (.t 14)⟩,
        ⟨some 5, none, .alloc [.s [], .i .i64 0, .i .i64 0, .i .i64 0, .i .i64 0, .i .i64 0, .i .i64 0, .sl 0 false []]⟩,
        ⟨none, none, .store 8 (.t 5) (.t 15)⟩] false [])
       (.keep [0, 3, 4, 5] (.seq
        (.region [⟨some 16, none, .litsO 0 [.i .u8 0] []⟩,
         ⟨some 17, none, .faddr 7 (.t 5)⟩,
         ⟨some 18, none, .load 1 false (.t 17)⟩,
         ⟨some 19, none, .app 1 1 (.t 16) (.t 18)⟩,
         ⟨some 20, none, .faddr 7 (.t 5)⟩,
         ⟨none, none, .store 1 (.t 20) (.t 19)⟩] false [])
        (.keep [0, 3, 4, 5] (.region [⟨some 21, none, .mov (.t 3)⟩,
         ⟨some 22, none, .load 8 true (.t 5)⟩,
         ⟨some 23, none, .lits 1 [.s [], .i .i64 0, .i .i64 0, .i .i64 0, .i .i64 0, .i .i64 0, .i .i64 0, .sl 0 false []] [(0, 8, .t 22)]⟩,
         ⟨some 24, none, .app 8 88 (.t 21) (.t 23)⟩,
         ⟨some 3, none, .mov (.t 24)⟩] false []))))))
      (.keep [0, 3, 4] (.region [⟨some 10, none, .mov (.t 4)⟩,
       ⟨some 11, none, .bin .add (.t 10) (.c (.d (.i .i64 1)))⟩,
       ⟨some 4, none, .mov (.t 11)⟩] false []))))
/-- spindle/spindleref9.CopySections -/
def F176_spindleref9_CopySections : SFn := ⟨1, true, true, [.tmp 2],
  .seq
   (.region [⟨some 2, none, .mov (.c (.d (.sl 0 false [])))⟩] false [])
   (.keep [0] (.seq
   (.region [⟨some 3, none, .tok 8 (.c (.d (.sl 0 false [])))⟩] false [])
   (.keep [0, 3] (.seq
    (.seq
    (.region [⟨some 4, none, .mov (.c (.d (.i .i64 0)))⟩] false [])
    (.keep [0, 3, 4] (.block 0 (.loop [0, 3, 4] true F176_spindleref9_CopySections_b0))))
    (.keep [3] (.seq
    (.region [⟨some 25, none, .mov (.t 3)⟩,
     ⟨some 2, none, .mov (.t 25)⟩] false [])
    (.ret)))))))⟩

def F179_spindleref9_SameSections_b0 : SCode :=
  .seq
      (.seq
      (.region [⟨some 11, none, .mov (.t 5)⟩,
       ⟨some 12, none, .mov (.t 0)⟩,
       ⟨some 13, none, .len false (.t 12)⟩,
       ⟨some 14, none, .bin .lss (.t 11) (.t 13)⟩] false [])
      (.keep [0, 1, 5, 14] (.cond (.t 14)
       (.skip)
       (.exit 0))))
      (.keep [0, 1, 5] (.seq
      (.block 1 (.seq
       (.region [⟨some 17, none, .mov (.t 0)⟩,
        ⟨some 18, none, .mov (.t 5)⟩,
        ⟨some 19, none, .iaddr 8 (.t 17) (.t 18)⟩,
        ⟨some 20, none, .load 8 true (.t 19)⟩,
        ⟨some 21, none, .mov (.t 1)⟩,
        ⟨some 22, none, .mov (.t 5)⟩,
        ⟨some 23, none, .iaddr 8 (.t 21) (.t 22)⟩,
        ⟨some 24, none, .load 8 true (.t 23)⟩,
        ⟨some 25, none, .call 185 [.t 20, .t 24]⟩,
        ⟨some 26, none, .un .not (.t 25)⟩] true [0, 0, 3, 7, 0, 0, 48, 112, 255, 511])
       (.keep [0, 1, 5, 26] (.cond (.t 26)
        (.keep [] (.seq
        (.region [⟨some 4, none, .mov (.c (.d (.b false)))⟩] false [])
        (.ret)))
        (.skip)))))
      (.keep [0, 1, 5] (.region [⟨some 15, none, .mov (.t 5)⟩,
       ⟨some 16, none, .bin .add (.t 15) (.c (.d (.i .i64 1)))⟩,
       ⟨some 5, none, .mov (.t 16)⟩] false []))))
/-- spindle/spindleref9.SameSections -/
def F179_spindleref9_SameSections : SFn := ⟨2, true, true, [.tmp 4],
  .seq
   (.region [⟨some 4, none, .mov (.c (.d (.b false)))⟩] false [])
   (.keep [0, 1] (.seq
   (.seq
    (.region [⟨some 6, none, .mov (.t 0)⟩,
     ⟨some 7, none, .len false (.t 6)⟩,
     ⟨some 8, none, .mov (.t 1)⟩,
     ⟨some 9, none, .len false (.t 8)⟩,
     ⟨some 10, none, .bin .neq (.t 7) (.t 9)⟩] false [])
    (.keep [0, 1, 10] (.cond (.t 10)
    (.keep [] (.seq
     (.region [⟨some 4, none, .mov (.c (.d (.b false)))⟩] false [])
     (.ret)))
    (.skip))))
   (.keep [0, 1] (.seq
    (.seq
    (.region [⟨some 5, none, .mov (.c (.d (.i .i64 0)))⟩] false [])
    (.keep [0, 1, 5] (.block 0 (.loop [0, 1, 5] false F179_spindleref9_SameSections_b0))))
    (.keep [] (.seq
    (.region [⟨some 4, none, .mov (.c (.d (.b true)))⟩] false [])
    (.ret)))))))⟩

/-- spindle/spindleref9.SameSection -/
def F185_spindleref9_SameSection : SFn := ⟨2, true, true, [.tmp 4],
  .seq
   (.region [⟨some 2, none, .box (.t 0)⟩,
    ⟨some 3, none, .box (.t 1)⟩,
    ⟨some 4, none, .mov (.c (.d (.b false)))⟩] false [])
   (.keep [2, 3] (.seq
   (.region [⟨some 5, none, .faddr 0 (.t 2)⟩,
    ⟨some 6, none, .load 1 false (.t 5)⟩,
    ⟨some 7, none, .faddr 0 (.t 3)⟩,
    ⟨some 8, none, .load 1 false (.t 7)⟩,
    ⟨some 9, none, .bin .eql (.t 6) (.t 8)⟩,
    ⟨some 10, none, .mov (.t 9)⟩,
    ⟨some 11, (some (5, true)), .faddr 1 (.t 2)⟩,
    ⟨some 12, (some (5, true)), .load 1 false (.t 11)⟩,
    ⟨some 13, (some (5, true)), .faddr 1 (.t 3)⟩,
    ⟨some 14, (some (5, true)), .load 1 false (.t 13)⟩,
    ⟨some 15, (some (5, true)), .bin .eql (.t 12) (.t 14)⟩,
    ⟨some 16, none, .pick (.t 10) (.t 15) (.c (.d (.b false)))⟩,
    ⟨some 17, none, .mov (.t 16)⟩,
    ⟨some 18, (some (12, true)), .faddr 2 (.t 2)⟩,
    ⟨some 19, (some (12, true)), .load 1 false (.t 18)⟩,
    ⟨some 20, (some (12, true)), .faddr 2 (.t 3)⟩,
    ⟨some 21, (some (12, true)), .load 1 false (.t 20)⟩,
    ⟨some 22, (some (12, true)), .bin .eql (.t 19) (.t 21)⟩,
    ⟨some 23, none, .pick (.t 17) (.t 22) (.c (.d (.b false)))⟩,
    ⟨some 24, none, .mov (.t 23)⟩,
    ⟨some 25, (some (19, true)), .faddr 3 (.t 2)⟩,
    ⟨some 26, (some (19, true)), .load 1 false (.t 25)⟩,
    ⟨some 27, (some (19, true)), .faddr 3 (.t 3)⟩,
    ⟨some 28, (some (19, true)), .load 1 false (.t 27)⟩,
    ⟨some 29, (some (19, true)), .bin .eql (.t 26) (.t 28)⟩,
    ⟨some 30, none, .pick (.t 24) (.t 29) (.c (.d (.b false)))⟩,
    ⟨some 31, none, .mov (.t 30)⟩,
    ⟨some 32, (some (26, true)), .faddr 4 (.t 2)⟩,
    ⟨some 33, (some (26, true)), .load 1 false (.t 32)⟩,
    ⟨some 34, (some (26, true)), .faddr 4 (.t 3)⟩,
    ⟨some 35, (some (26, true)), .load 1 false (.t 34)⟩,
    ⟨some 36, (some (26, true)), .bin .eql (.t 33) (.t 35)⟩,
    ⟨some 37, none, .pick (.t 31) (.t 36) (.c (.d (.b false)))⟩,
    ⟨some 38, none, .mov (.t 37)⟩,
    ⟨some 39, (some (33, true)), .faddr 5 (.t 2)⟩,
    ⟨some 40, (some (33, true)), .load 1 false (.t 39)⟩,
    ⟨some 41, (some (33, true)), .faddr 5 (.t 3)⟩,
    ⟨some 42, (some (33, true)), .load 1 false (.t 41)⟩,
    ⟨some 43, (some (33, true)), .bin .eql (.t 40) (.t 42)⟩,
    ⟨some 44, none, .pick (.t 38) (.t 43) (.c (.d (.b false)))⟩,
    ⟨some 45, none, .mov (.t 44)⟩,
    ⟨some 46, (some (40, true)), .faddr 6 (.t 2)⟩,
    ⟨some 47, (some (40, true)), .load 1 false (.t 46)⟩,
    ⟨some 48, (some (40, true)), .faddr 6 (.t 3)⟩,
    ⟨some 49, (some (40, true)), .load 1 false (.t 48)⟩,
    ⟨some 50, (some (40, true)), .bin .eql (.t 47) (.t 49)⟩,
    ⟨some 51, none, .pick (.t 45) (.t 50) (.c (.d (.b false)))⟩,
    ⟨some 52, none, .mov (.t 51)⟩,
    ⟨some 53, (some (47, true)), .faddr 7 (.t 2)⟩,
    ⟨some 54, (some (47, true)), .load 1 false (.t 53)⟩,
    ⟨some 55, (some (47, true)), .b2s (.t 54)⟩,
    ⟨some 56, (some (47, true)), .faddr 7 (.t 3)⟩,
    ⟨some 57, (some (47, true)), .load 1 false (.t 56)⟩,
    ⟨some 58, (some (47, true)), .b2s (.t 57)⟩,
    ⟨some 59, (some (47, true)), .bin .eql (.t 55) (.t 58)⟩,
    ⟨some 60, none, .pick (.t 52) (.t 59) (.c (.d (.b false)))⟩,
    ⟨some 4, none, .mov (.t 60)⟩] false [])
   (.ret)))⟩
end Go.Sh
