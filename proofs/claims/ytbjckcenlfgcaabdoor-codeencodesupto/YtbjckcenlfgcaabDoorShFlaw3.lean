/- Shadow functions of law3, written by tr.py. -/
import Derived.Test.YtbjckcenlfgcaabDoorShBa
namespace Go.Sh
def F1_spindlelaw3_Lend_b0 : SCode :=
  .seq
      (.seq
      (.region [⟨some 10, none, .mov (.t 4)⟩,
       ⟨some 11, none, .mov (.t 3)⟩,
       ⟨some 12, none, .len false (.t 11)⟩,
       ⟨some 13, none, .bin .lss (.t 10) (.t 12)⟩] false [])
      (.keep [0, 3, 4, 13] (.cond (.t 13)
       (.skip)
       (.exit 0))))
      (.keep [0, 3, 4] (.seq
      (.block 1 (.region [⟨some 16, none, .mov (.t 3)⟩,
        ⟨some 17, none, .mov (.t 4)⟩,
        ⟨some 18, none, .mov (.t 4)⟩,
        ⟨some 19, none, .call 6 [.t 18]⟩,
        ⟨some 20, none, .iaddr 5 (.t 16) (.t 17)⟩,
        ⟨none, none, .store 5 (.t 20) (.t 19)⟩] false []))
      (.keep [0, 3, 4] (.region [⟨some 14, none, .mov (.t 4)⟩,
       ⟨some 15, none, .bin .add (.t 14) (.c (.d (.i .i64 1)))⟩,
       ⟨some 4, none, .mov (.t 15)⟩] false []))))
/-- spindle/spindlelaw3.Lend -/
def F1_spindlelaw3_Lend : SFn := ⟨1, false, false, [.tmp 2],
  .seq
   (.region [⟨some 2, none, .mov (.c (.d (.sl 0 false [])))⟩] false [])
   (.keep [0] (.seq
   (.region [⟨some 5, none, .mov (.t 0)⟩,
    ⟨some 6, none, .len false (.t 5)⟩,
    ⟨some 7, none, .bin .mul (.c (.d (.i .i64 2))) (.t 6)⟩,
    ⟨some 8, none, .bin .add (.t 7) (.c (.d (.i .i64 70)))⟩,
    ⟨some 9, none, .mkR 40 [.i .i64 0, .i .i64 0, .i .i64 0, .i .i64 0, .i .i64 0] (.t 8) (.t 8)⟩,
    ⟨some 3, none, .mov (.t 9)⟩] false [])
   (.keep [0, 3] (.seq
    (.seq
    (.region [⟨some 4, none, .mov (.c (.d (.i .i64 0)))⟩] false [])
    (.keep [0, 3, 4] (.block 0 (.loop [0, 3, 4] false F1_spindlelaw3_Lend_b0))))
    (.keep [0, 3] (.seq
    (.region [⟨some 21, none, .mov (.t 3)⟩,
     ⟨some 22, none, .mov (.t 0)⟩,
     ⟨some 23, none, .cpy 5 (.t 21) (.t 22)⟩] false [])
    (.keep [0, 3] (.seq
     (.region [⟨some 24, none, .mov (.t 3)⟩,
      ⟨some 25, none, .mov (.t 0)⟩,
      ⟨some 26, none, .len false (.t 25)⟩,
      ⟨some 27, none, .slc 5 (.t 24) none (some (.t 26)) none⟩,
      ⟨some 2, none, .mov (.t 27)⟩] false [])
     (.ret)))))))))⟩

def F2_spindlelaw3_Turned_b0 : SCode :=
  .seq
      (.seq
       (.region [⟨some 22, none, .mov (.t 1)⟩,
        ⟨some 23, none, .bin .eql (.t 22) (.c (.d (.i .i64 2)))⟩,
        ⟨some 24, none, .mov (.t 23)⟩,
        ⟨some 25, (some (2, true)), .mov (.t 6)⟩,
        ⟨some 26, (some (2, true)), .mov (.t 5)⟩,
        ⟨some 27, (some (2, true)), .len false (.t 26)⟩,
        ⟨some 28, (some (2, true)), .bin .lss (.t 25) (.t 27)⟩,
        ⟨some 29, none, .pick (.t 24) (.t 28) (.c (.d (.b false)))⟩] false [])
       (.keep [0, 1, 5, 6, 29] (.cond (.t 29)
       (.skip)
       (.exit 0))))
      (.keep [0, 1, 5, 6] (.seq
       (.block 1 (.region [⟨some 32, none, .mov (.t 5)⟩,
        ⟨some 33, none, .mov (.t 6)⟩,
        ⟨some 34, none, .mov (.t 0)⟩,
        ⟨some 35, none, .mov (.t 0)⟩,
        ⟨some 36, none, .len false (.t 35)⟩,
        ⟨some 37, none, .bin .sub (.t 36) (.c (.d (.i .i64 1)))⟩,
        ⟨some 38, none, .mov (.t 6)⟩,
        ⟨some 39, none, .bin .sub (.t 37) (.t 38)⟩,
        ⟨some 40, none, .iaddr 5 (.t 34) (.t 39)⟩,
        ⟨some 41, none, .load 5 true (.t 40)⟩,
        ⟨some 42, none, .iaddr 5 (.t 32) (.t 33)⟩,
        ⟨none, none, .store 5 (.t 42) (.t 41)⟩] false []))
       (.keep [0, 1, 5, 6] (.region [⟨some 30, none, .mov (.t 6)⟩,
        ⟨some 31, none, .bin .add (.t 30) (.c (.d (.i .i64 1)))⟩,
        ⟨some 6, none, .mov (.t 31)⟩] false []))))
/-- spindle/spindlelaw3.Turned -/
def F2_spindlelaw3_Turned : SFn := ⟨2, true, true, [.tmp 4],
  .seq
   (.region [⟨some 4, none, .mov (.c (.d (.sl 0 false [])))⟩] false [])
   (.keep [0, 1] (.seq
   (.region [⟨some 7, none, .mov (.t 0)⟩,
    ⟨some 8, none, .call 7 [.t 7]⟩,
    ⟨some 5, none, .mov (.t 8)⟩] false [])
   (.keep [0, 1, 5] (.seq
    (.seq
    (.region [⟨some 9, none, .mov (.t 1)⟩,
     ⟨some 10, none, .bin .eql (.t 9) (.c (.d (.i .i64 1)))⟩,
     ⟨some 11, none, .mov (.t 10)⟩,
     ⟨some 12, (some (2, true)), .mov (.t 5)⟩,
     ⟨some 13, (some (2, true)), .len false (.t 12)⟩,
     ⟨some 14, (some (2, true)), .bin .gtr (.t 13) (.c (.d (.i .i64 0)))⟩,
     ⟨some 15, none, .pick (.t 11) (.t 14) (.c (.d (.b false)))⟩] false [])
    (.keep [0, 1, 5, 15] (.cond (.t 15)
     (.keep [0, 1, 5] (.region [⟨some 16, none, .mov (.t 5)⟩,
      ⟨some 17, none, .mov (.t 5)⟩,
      ⟨some 18, none, .len false (.t 17)⟩,
      ⟨some 19, none, .bin .quo (.t 18) (.c (.d (.i .i64 2)))⟩,
      ⟨some 20, none, .build [.i .i64 0, .i .i64 0, .i .i64 0, .i .i64 0, .i .i64 0] [(0, 1, .c (.d (.i .i64 149)))]⟩,
      ⟨some 21, none, .iaddr 5 (.t 16) (.t 19)⟩,
      ⟨none, none, .store 5 (.t 21) (.t 20)⟩] false []))
     (.skip))))
    (.keep [0, 1, 5] (.seq
    (.seq
     (.region [⟨some 6, none, .mov (.c (.d (.i .i64 0)))⟩] false [])
     (.keep [0, 1, 5, 6] (.block 0 (.loop [0, 1, 5, 6] false F2_spindlelaw3_Turned_b0))))
    (.keep [5] (.seq
     (.region [⟨some 43, none, .mov (.t 5)⟩,
      ⟨some 4, none, .mov (.t 43)⟩] false [])
     (.ret)))))))))⟩

def F4_spindlelaw3_Back_b0 : SCode :=
  .seq
      (.seq
      (.region [⟨some 15, none, .mov (.t 6)⟩,
       ⟨some 16, none, .mov (.t 5)⟩,
       ⟨some 17, none, .len false (.t 16)⟩,
       ⟨some 18, none, .bin .lss (.t 15) (.t 17)⟩] false [])
      (.keep [0, 1, 5, 6, 18] (.cond (.t 18)
       (.skip)
       (.exit 0))))
      (.keep [0, 1, 5, 6] (.seq
      (.block 1 (.seq
       (.region [⟨some 21, none, .mov (.t 5)⟩,
        ⟨some 22, none, .mov (.t 6)⟩,
        ⟨some 23, none, .iaddr 5 (.t 21) (.t 22)⟩,
        ⟨some 24, none, .load 5 true (.t 23)⟩,
        ⟨some 25, none, .mov (.t 6)⟩,
        ⟨some 26, none, .call 6 [.t 25]⟩,
        ⟨some 27, none, .eqv true [9, 0, 0, 0, 0, 0] (.t 24) (.t 26)⟩] true [0, 0, 3, 7, 0, 16, 63])
       (.keep [0, 1, 5, 6, 27] (.cond (.t 27)
        (.keep [] (.seq
        (.region [⟨some 4, none, .mov (.c (.d (.b false)))⟩] false [])
        (.ret)))
        (.skip)))))
      (.keep [0, 1, 5, 6] (.region [⟨some 19, none, .mov (.t 6)⟩,
       ⟨some 20, none, .bin .add (.t 19) (.c (.d (.i .i64 1)))⟩,
       ⟨some 6, none, .mov (.t 20)⟩] false []))))
/-- spindle/spindlelaw3.Back -/
def F4_spindlelaw3_Back : SFn := ⟨2, false, false, [.tmp 4],
  .seq
   (.region [⟨some 4, none, .mov (.c (.d (.b false)))⟩] false [])
   (.keep [0, 1] (.seq
   (.region [⟨some 7, none, .mov (.t 0)⟩,
    ⟨some 8, none, .mov (.t 1)⟩,
    ⟨some 9, none, .len false (.t 8)⟩,
    ⟨some 10, none, .bin .mul (.c (.d (.i .i64 2))) (.t 9)⟩,
    ⟨some 11, none, .bin .add (.t 10) (.c (.d (.i .i64 70)))⟩,
    ⟨some 12, none, .slc 5 (.t 7) none (some (.t 11)) none⟩,
    ⟨some 5, none, .mov (.t 12)⟩] false [])
   (.keep [0, 1, 5] (.seq
    (.seq
    (.region [⟨some 13, none, .mov (.t 1)⟩,
     ⟨some 14, none, .len false (.t 13)⟩,
     ⟨some 6, none, .mov (.t 14)⟩] false [])
    (.keep [0, 1, 5, 6] (.block 0 (.loop [0, 1, 5, 6] false F4_spindlelaw3_Back_b0))))
    (.keep [0, 1] (.seq
    (.region [⟨some 28, none, .mov (.t 0)⟩,
     ⟨some 29, none, .mov (.t 1)⟩,
     ⟨some 30, none, .call 9 [.t 28, .t 29]⟩,
     ⟨some 4, none, .mov (.t 30)⟩] false [])
    (.ret)))))))⟩

/-- spindle/spindlelaw3.behind -/
def F6_spindlelaw3_behind : SFn := ⟨1, true, true, [.cell 2 5 true],
  .seq
   (.region [⟨some 2, none, .alloc [.i .i64 0, .i .i64 0, .i .i64 0, .i .i64 0, .i .i64 0]⟩] false [])
   (.keep [0, 2] (.seq
   (.region [⟨some 3, none, .mov (.t 0)⟩,
    ⟨some 4, none, .bin .sub (.c (.d (.i .i64 (-7)))) (.t 3)⟩,
    ⟨some 5, none, .mov (.t 0)⟩,
    ⟨some 6, none, .build [.i .i64 0, .i .i64 0, .i .i64 0, .i .i64 0, .i .i64 0] [(0, 1, .c (.d (.i .i64 149))), (1, 1, .t 4), (4, 1, .t 5)]⟩,
    ⟨none, none, .store 5 (.t 2) (.t 6)⟩] false [])
   (.ret)))⟩

/-- spindle/spindlelaw3.awake -/
def F69_spindlelaw3_awake : SFn := ⟨0, true, true, [.tmp 0],
  .seq
   (.region [⟨some 0, none, .mov (.c (.d (.b false)))⟩] false [])
   (.keep [] (.seq
   (.region [⟨some 8, none, .build [.i .i64 0, .i .i64 0, .i .i64 0, .i .i64 0, .i .i64 0] [(0, 1, .c (.d (.i .i64 149)))]⟩,
    ⟨some 1, none, .alloc [.i .i64 0, .i .i64 0, .i .i64 0, .i .i64 0, .i .i64 0]⟩,
    ⟨none, none, .store 5 (.t 1) (.t 8)⟩] false [])
   (.keep [1] (.seq
    (.region [⟨some 10, none, .load 5 true (.t 1)⟩,
     ⟨some 11, none, .lits 1 [.i .i64 0, .i .i64 0, .i .i64 0, .i .i64 0, .i .i64 0] [(0, 5, .t 10)]⟩,
     ⟨some 12, none, .call 70 [.t 11]⟩,
     ⟨some 9, none, .mov (.t 12)⟩,
     ⟨some 13, none, .extract 0 (.t 9)⟩,
     ⟨some 14, none, .extract 1 (.t 9)⟩,
     ⟨some 15, none, .extract 2 (.t 9)⟩,
     ⟨some 2, none, .mov (.t 13)⟩,
     ⟨some 3, none, .mov (.t 14)⟩,
     ⟨some 4, none, .mov (.t 15)⟩] false [])
    (.keep [1, 2, 3, 4] (.seq
    (.region [⟨some 17, none, .lits 8 [.i .u8 0] [(0, 1, .c (.d (.i .u8 149))), (1, 1, .c (.d (.i .u8 0))), (2, 1, .c (.d (.i .u8 0))), (3, 1, .c (.d (.i .u8 0))), (4, 1, .c (.d (.i .u8 0))), (5, 1, .c (.d (.i .u8 0))), (6, 1, .c (.d (.i .u8 0))), (7, 1, .c (.d (.i .u8 0)))]⟩,
     ⟨some 18, none, .call 72 [.t 17]⟩,
     ⟨some 16, none, .mov (.t 18)⟩,
     ⟨some 19, none, .extract 0 (.t 16)⟩,
     ⟨some 20, none, .extract 1 (.t 16)⟩,
     ⟨some 21, none, .extract 2 (.t 16)⟩,
     ⟨some 5, none, .mov (.t 19)⟩,
     ⟨some 6, none, .mov (.t 20)⟩,
     ⟨some 7, none, .mov (.t 21)⟩] false [])
    (.keep [1, 2, 3, 4, 5, 6, 7] (.seq
     (.region [⟨some 22, none, .mov (.t 4)⟩,
      ⟨some 23, none, .call 12 [.t 22]⟩,
      ⟨some 24, none, .bin .eql (.t 23) (.c (.d (.i .i64 0)))⟩,
      ⟨some 25, none, .mov (.t 24)⟩,
      ⟨some 26, (some (3, true)), .mov (.t 7)⟩,
      ⟨some 27, (some (3, true)), .call 12 [.t 26]⟩,
      ⟨some 28, (some (3, true)), .bin .eql (.t 27) (.c (.d (.i .i64 0)))⟩,
      ⟨some 29, none, .pick (.t 25) (.t 28) (.c (.d (.b false)))⟩,
      ⟨some 30, none, .mov (.t 29)⟩,
      ⟨some 31, (some (8, true)), .mov (.t 3)⟩,
      ⟨some 32, (some (8, true)), .bin .eql (.t 31) (.c (.d (.i .i64 0)))⟩,
      ⟨some 33, none, .pick (.t 30) (.t 32) (.c (.d (.b false)))⟩,
      ⟨some 34, none, .mov (.t 33)⟩,
      ⟨some 35, (some (12, true)), .mov (.t 6)⟩,
      ⟨some 36, (some (12, true)), .bin .eql (.t 35) (.c (.d (.i .i64 0)))⟩,
      ⟨some 37, none, .pick (.t 34) (.t 36) (.c (.d (.b false)))⟩,
      ⟨some 38, none, .mov (.t 37)⟩,
      ⟨some 39, (some (16, true)), .mov (.t 2)⟩,
      ⟨some 40, (some (16, true)), .len false (.t 39)⟩,
      ⟨some 41, (some (16, true)), .bin .eql (.t 40) (.c (.d (.i .i64 8)))⟩,
      ⟨some 42, none, .pick (.t 38) (.t 41) (.c (.d (.b false)))⟩,
      ⟨some 43, none, .mov (.t 42)⟩,
      ⟨some 44, (some (21, true)), .mov (.t 2)⟩,
      ⟨some 45, (some (21, true)), .iaddr 1 (.t 44) (.c (.d (.i .i64 0)))⟩,
      ⟨some 46, (some (21, true)), .load 1 false (.t 45)⟩,
      ⟨some 47, (some (21, true)), .bin .eql (.t 46) (.c (.d (.i .u8 149)))⟩,
      ⟨some 48, none, .pick (.t 43) (.t 47) (.c (.d (.b false)))⟩,
      ⟨some 49, none, .mov (.t 48)⟩,
      ⟨some 50, (some (27, true)), .mov (.t 5)⟩,
      ⟨some 51, (some (27, true)), .len false (.t 50)⟩,
      ⟨some 52, (some (27, true)), .bin .eql (.t 51) (.c (.d (.i .i64 1)))⟩,
      ⟨some 53, none, .pick (.t 49) (.t 52) (.c (.d (.b false)))⟩,
      ⟨some 54, none, .mov (.t 53)⟩,
      ⟨some 55, (some (32, true)), .mov (.t 5)⟩,
      ⟨some 56, (some (32, true)), .iaddr 5 (.t 55) (.c (.d (.i .i64 0)))⟩,
      ⟨some 57, (some (32, true)), .load 5 true (.t 56)⟩,
      ⟨some 58, (some (32, true)), .load 5 true (.t 1)⟩,
      ⟨some 59, (some (32, true)), .eqv false [9, 0, 0, 0, 0, 0] (.t 57) (.t 58)⟩,
      ⟨some 60, none, .pick (.t 54) (.t 59) (.c (.d (.b false)))⟩,
      ⟨some 0, none, .mov (.t 60)⟩] true [0, 1, 3, 7, 15, 31, 63, 127, 255, 511, 1023, 2047, 4095, 8191, 16383, 32767, 65535, 131071, 262143, 524287, 1048575, 2097151, 4194303, 8388607, 16777215, 33554431, 67108863, 134217727, 268435455, 536870911, 1073741823, 2147483647, 4294967295, 8589934591, 17179869183, 34359738367, 8589934591, 137438953471, 274877906943, 549755813887])
     (.ret)))))))))⟩

def F71_spindlelaw3_CodeBack_b0 : SCode :=
  .seq
      (.seq
       (.region [⟨some 19, none, .mov (.t 6)⟩,
        ⟨some 20, none, .mov (.t 0)⟩,
        ⟨some 21, none, .len false (.t 20)⟩,
        ⟨some 22, none, .bin .lss (.t 19) (.t 21)⟩,
        ⟨some 23, none, .mov (.t 22)⟩,
        ⟨some 24, (some (4, true)), .mov (.t 0)⟩,
        ⟨some 25, (some (4, true)), .mov (.t 6)⟩,
        ⟨some 26, (some (4, true)), .iaddr 5 (.t 24) (.t 25)⟩,
        ⟨some 27, (some (4, true)), .load 5 true (.t 26)⟩,
        ⟨some 28, (some (4, true)), .call 27 [.t 27]⟩,
        ⟨some 29, (some (4, true)), .call 12 [.t 28]⟩,
        ⟨some 30, (some (4, true)), .bin .eql (.t 29) (.c (.d (.i .i64 0)))⟩,
        ⟨some 31, none, .pick (.t 23) (.t 30) (.c (.d (.b false)))⟩] false [])
       (.keep [0, 3, 4, 5, 6, 31] (.cond (.t 31)
       (.skip)
       (.exit 0))))
      (.keep [0, 3, 4, 5, 6] (.block 1 (.region [⟨some 32, none, .mov (.t 6)⟩,
        ⟨some 33, none, .bin .add (.t 32) (.c (.d (.i .i64 1)))⟩,
        ⟨some 6, none, .mov (.t 33)⟩] false [])))
/-- spindle/spindlelaw3.CodeBack -/
def F71_spindlelaw3_CodeBack : SFn := ⟨1, true, true, [.tmp 2],
  .seq
   (.region [⟨some 2, none, .mov (.c (.d (.b false)))⟩] false [])
   (.keep [0] (.seq
   (.seq
    (.region [⟨some 10, none, .call 69 []⟩,
     ⟨some 11, none, .un .not (.t 10)⟩] false [])
    (.keep [0, 11] (.cond (.t 11)
    (.keep [] (.seq
     (.region [⟨some 2, none, .mov (.c (.d (.b false)))⟩] false [])
     (.ret)))
    (.skip))))
   (.keep [0] (.seq
    (.region [⟨some 13, none, .mov (.t 0)⟩,
     ⟨some 14, none, .call 7 [.t 13]⟩,
     ⟨some 15, none, .call 70 [.t 14]⟩,
     ⟨some 12, none, .mov (.t 15)⟩,
     ⟨some 16, none, .extract 0 (.t 12)⟩,
     ⟨some 17, none, .extract 1 (.t 12)⟩,
     ⟨some 18, none, .extract 2 (.t 12)⟩,
     ⟨some 3, none, .mov (.t 16)⟩,
     ⟨some 4, none, .mov (.t 17)⟩,
     ⟨some 5, none, .mov (.t 18)⟩] false [])
    (.keep [0, 3, 4, 5] (.seq
    (.region [⟨some 6, none, .mov (.c (.d (.i .i64 0)))⟩] false [])
    (.keep [0, 3, 4, 5, 6] (.seq
     (.block 0 (.loop [0, 3, 4, 5, 6] false F71_spindlelaw3_CodeBack_b0))
     (.keep [0, 3, 4, 5, 6] (.seq
     (.seq
      (.region [⟨some 34, none, .mov (.t 6)⟩,
       ⟨some 35, none, .mov (.t 0)⟩,
       ⟨some 36, none, .len false (.t 35)⟩,
       ⟨some 37, none, .bin .lss (.t 34) (.t 36)⟩] false [])
      (.keep [0, 3, 4, 5, 6, 37] (.cond (.t 37)
      (.keep [0, 3, 4, 5, 6] (.seq
       (.region [⟨some 38, none, .mov (.t 3)⟩,
        ⟨some 39, none, .len false (.t 38)⟩,
        ⟨some 40, none, .bin .eql (.t 39) (.c (.d (.i .i64 0)))⟩,
        ⟨some 41, none, .mov (.t 40)⟩,
        ⟨some 42, (some (3, true)), .mov (.t 4)⟩,
        ⟨some 43, (some (3, true)), .mov (.t 6)⟩,
        ⟨some 44, (some (3, true)), .bin .eql (.t 42) (.t 43)⟩,
        ⟨some 45, none, .pick (.t 41) (.t 44) (.c (.d (.b false)))⟩,
        ⟨some 46, none, .mov (.t 45)⟩,
        ⟨some 47, (some (8, true)), .mov (.t 5)⟩,
        ⟨some 48, (some (8, true)), .mov (.t 0)⟩,
        ⟨some 49, (some (8, true)), .mov (.t 6)⟩,
        ⟨some 50, (some (8, true)), .iaddr 5 (.t 48) (.t 49)⟩,
        ⟨some 51, (some (8, true)), .load 5 true (.t 50)⟩,
        ⟨some 52, (some (8, true)), .call 27 [.t 51]⟩,
        ⟨some 53, (some (8, true)), .bin .eql (.t 47) (.t 52)⟩,
        ⟨some 54, none, .pick (.t 46) (.t 53) (.c (.d (.b false)))⟩,
        ⟨some 2, none, .mov (.t 54)⟩] false [])
       (.ret)))
      (.skip))))
     (.keep [0, 3, 4, 5] (.seq
      (.seq
      (.region [⟨some 55, none, .mov (.t 5)⟩,
       ⟨some 56, none, .call 12 [.t 55]⟩,
       ⟨some 57, none, .bin .neq (.t 56) (.c (.d (.i .i64 0)))⟩,
       ⟨some 58, none, .mov (.t 57)⟩,
       ⟨some 59, (some (3, false)), .mov (.t 4)⟩,
       ⟨some 60, (some (3, false)), .bin .neq (.t 59) (.c (.d (.i .i64 0)))⟩,
       ⟨some 61, none, .pick (.t 58) (.c (.d (.b true))) (.t 60)⟩,
       ⟨some 62, none, .mov (.t 61)⟩,
       ⟨some 63, (some (7, false)), .mov (.t 3)⟩,
       ⟨some 64, (some (7, false)), .len false (.t 63)⟩,
       ⟨some 65, (some (7, false)), .mov (.t 0)⟩,
       ⟨some 66, (some (7, false)), .call 7 [.t 65]⟩,
       ⟨some 67, (some (7, false)), .call 0 [.t 66]⟩,
       ⟨some 68, (some (7, false)), .bin .mul (.c (.d (.i .i64 8))) (.t 67)⟩,
       ⟨some 69, (some (7, false)), .bin .neq (.t 64) (.t 68)⟩,
       ⟨some 70, none, .pick (.t 62) (.c (.d (.b true))) (.t 69)⟩] false [])
      (.keep [0, 3, 70] (.cond (.t 70)
       (.keep [] (.seq
       (.region [⟨some 2, none, .mov (.c (.d (.b false)))⟩] false [])
       (.ret)))
       (.skip))))
      (.keep [0, 3] (.seq
      (.region [⟨some 72, none, .mov (.t 3)⟩,
       ⟨some 73, none, .call 72 [.t 72]⟩,
       ⟨some 71, none, .mov (.t 73)⟩,
       ⟨some 74, none, .extract 0 (.t 71)⟩,
       ⟨some 75, none, .extract 1 (.t 71)⟩,
       ⟨some 76, none, .extract 2 (.t 71)⟩,
       ⟨some 7, none, .mov (.t 74)⟩,
       ⟨some 8, none, .mov (.t 75)⟩,
       ⟨some 9, none, .mov (.t 76)⟩] false [])
      (.keep [0, 7, 8, 9] (.seq
       (.region [⟨some 77, none, .mov (.t 9)⟩,
        ⟨some 78, none, .call 12 [.t 77]⟩,
        ⟨some 79, none, .bin .eql (.t 78) (.c (.d (.i .i64 0)))⟩,
        ⟨some 80, none, .mov (.t 79)⟩,
        ⟨some 81, (some (3, true)), .mov (.t 8)⟩,
        ⟨some 82, (some (3, true)), .bin .eql (.t 81) (.c (.d (.i .i64 0)))⟩,
        ⟨some 83, none, .pick (.t 80) (.t 82) (.c (.d (.b false)))⟩,
        ⟨some 84, none, .mov (.t 83)⟩,
        ⟨some 85, (some (7, true)), .mov (.t 7)⟩,
        ⟨some 86, (some (7, true)), .mov (.t 0)⟩,
        ⟨some 87, (some (7, true)), .call 9 [.t 85, .t 86]⟩,
        ⟨some 88, none, .pick (.t 84) (.t 87) (.c (.d (.b false)))⟩,
        ⟨some 2, none, .mov (.t 88)⟩] false [])
       (.ret)))))))))))))))))⟩

/-- spindle/spindlelaw3.CodeForth -/
def F74_spindlelaw3_CodeForth : SFn := ⟨2, true, true, [.tmp 4],
  .seq
   (.region [⟨some 4, none, .mov (.c (.d (.b false)))⟩] false [])
   (.keep [0, 1] (.seq
   (.seq
    (.region [⟨some 18, none, .call 69 []⟩,
     ⟨some 19, none, .un .not (.t 18)⟩] false [])
    (.keep [0, 1, 19] (.cond (.t 19)
    (.keep [] (.seq
     (.region [⟨some 4, none, .mov (.c (.d (.b false)))⟩] false [])
     (.ret)))
    (.skip))))
   (.keep [0, 1] (.seq
    (.region [⟨some 21, none, .mov (.t 0)⟩,
     ⟨some 22, none, .call 35 [.t 21]⟩,
     ⟨some 23, none, .call 72 [.t 22]⟩,
     ⟨some 20, none, .mov (.t 23)⟩,
     ⟨some 24, none, .extract 0 (.t 20)⟩,
     ⟨some 25, none, .extract 1 (.t 20)⟩,
     ⟨some 26, none, .extract 2 (.t 20)⟩,
     ⟨some 5, none, .mov (.t 24)⟩,
     ⟨some 6, none, .mov (.t 25)⟩,
     ⟨some 7, none, .mov (.t 26)⟩] false [])
    (.keep [0, 1, 5, 6, 7] (.seq
    (.seq
     (.region [⟨some 27, none, .mov (.t 7)⟩,
      ⟨some 28, none, .call 12 [.t 27]⟩,
      ⟨some 29, none, .bin .eql (.t 28) (.c (.d (.i .i64 0)))⟩] false [])
     (.keep [0, 1, 5, 6, 7, 29] (.cond (.t 29)
     (.keep [0, 5, 6] (.seq
      (.region [⟨some 31, none, .mov (.t 5)⟩,
       ⟨some 32, none, .call 70 [.t 31]⟩,
       ⟨some 30, none, .mov (.t 32)⟩,
       ⟨some 33, none, .extract 0 (.t 30)⟩,
       ⟨some 34, none, .extract 1 (.t 30)⟩,
       ⟨some 35, none, .extract 2 (.t 30)⟩,
       ⟨some 8, none, .mov (.t 33)⟩,
       ⟨some 9, none, .mov (.t 34)⟩,
       ⟨some 10, none, .mov (.t 35)⟩] false [])
      (.keep [0, 6, 8, 9, 10] (.seq
      (.region [⟨some 36, none, .mov (.t 6)⟩,
       ⟨some 37, none, .bin .eql (.t 36) (.c (.d (.i .i64 0)))⟩,
       ⟨some 38, none, .mov (.t 37)⟩,
       ⟨some 39, (some (2, true)), .mov (.t 9)⟩,
       ⟨some 40, (some (2, true)), .bin .eql (.t 39) (.c (.d (.i .i64 0)))⟩,
       ⟨some 41, none, .pick (.t 38) (.t 40) (.c (.d (.b false)))⟩,
       ⟨some 42, none, .mov (.t 41)⟩,
       ⟨some 43, (some (6, true)), .mov (.t 10)⟩,
       ⟨some 44, (some (6, true)), .call 12 [.t 43]⟩,
       ⟨some 45, (some (6, true)), .bin .eql (.t 44) (.c (.d (.i .i64 0)))⟩,
       ⟨some 46, none, .pick (.t 42) (.t 45) (.c (.d (.b false)))⟩,
       ⟨some 47, none, .mov (.t 46)⟩,
       ⟨some 48, (some (11, true)), .mov (.t 8)⟩,
       ⟨some 49, (some (11, true)), .mov (.t 0)⟩,
       ⟨some 50, (some (11, true)), .call 73 [.t 48, .t 49]⟩,
       ⟨some 51, none, .pick (.t 47) (.t 50) (.c (.d (.b false)))⟩,
       ⟨some 4, none, .mov (.t 51)⟩] false [])
      (.ret)))))
     (.skip))))
    (.keep [0, 1, 5, 6, 7] (.seq
     (.seq
     (.region [⟨some 52, none, .mov (.t 5)⟩,
      ⟨some 53, none, .len false (.t 52)⟩,
      ⟨some 54, none, .bin .neq (.t 53) (.c (.d (.i .i64 0)))⟩,
      ⟨some 55, none, .mov (.t 54)⟩,
      ⟨some 56, (some (3, false)), .mov (.t 6)⟩,
      ⟨some 57, (some (3, false)), .bin .lss (.t 56) (.c (.d (.i .i64 0)))⟩,
      ⟨some 58, none, .pick (.t 55) (.c (.d (.b true))) (.t 57)⟩,
      ⟨some 59, none, .mov (.t 58)⟩,
      ⟨some 60, (some (7, false)), .mov (.t 6)⟩,
      ⟨some 61, (some (7, false)), .bin .mul (.c (.d (.i .i64 8))) (.t 60)⟩,
      ⟨some 62, (some (7, false)), .mov (.t 0)⟩,
      ⟨some 63, (some (7, false)), .len false (.t 62)⟩,
      ⟨some 64, (some (7, false)), .bin .gtr (.t 61) (.t 63)⟩,
      ⟨some 65, none, .pick (.t 59) (.c (.d (.b true))) (.t 64)⟩,
      ⟨some 66, none, .mov (.t 65)⟩,
      ⟨some 67, (some (14, false)), .mov (.t 7)⟩,
      ⟨some 68, (some (14, false)), .call 12 [.t 67]⟩,
      ⟨some 69, (some (14, false)), .bin .lss (.t 68) (.c (.d (.i .i64 30)))⟩,
      ⟨some 70, none, .pick (.t 66) (.c (.d (.b true))) (.t 69)⟩,
      ⟨some 71, none, .mov (.t 70)⟩,
      ⟨some 72, (some (19, false)), .mov (.t 7)⟩,
      ⟨some 73, (some (19, false)), .call 12 [.t 72]⟩,
      ⟨some 74, (some (19, false)), .bin .gtr (.t 73) (.c (.d (.i .i64 32)))⟩,
      ⟨some 75, none, .pick (.t 71) (.c (.d (.b true))) (.t 74)⟩] false [])
     (.keep [0, 1, 6, 75] (.cond (.t 75)
      (.keep [] (.seq
      (.region [⟨some 4, none, .mov (.c (.d (.b false)))⟩] false [])
      (.ret)))
      (.skip))))
     (.keep [0, 1, 6] (.seq
     (.region [⟨some 77, none, .mov (.t 0)⟩,
      ⟨some 78, none, .mov (.t 6)⟩,
      ⟨some 79, none, .bin .mul (.c (.d (.i .i64 8))) (.t 78)⟩,
      ⟨some 80, none, .slc 1 (.t 77) none (some (.t 79)) none⟩,
      ⟨some 81, none, .call 35 [.t 80]⟩,
      ⟨some 82, none, .call 72 [.t 81]⟩,
      ⟨some 76, none, .mov (.t 82)⟩,
      ⟨some 83, none, .extract 0 (.t 76)⟩,
      ⟨some 84, none, .extract 1 (.t 76)⟩,
      ⟨some 85, none, .extract 2 (.t 76)⟩,
      ⟨some 11, none, .mov (.t 83)⟩,
      ⟨some 12, none, .mov (.t 84)⟩,
      ⟨some 13, none, .mov (.t 85)⟩] false [])
     (.keep [0, 1, 6, 12, 13] (.seq
      (.seq
      (.region [⟨some 86, none, .mov (.t 12)⟩,
       ⟨some 87, none, .bin .neq (.t 86) (.c (.d (.i .i64 0)))⟩,
       ⟨some 88, none, .mov (.t 87)⟩,
       ⟨some 89, (some (2, false)), .mov (.t 13)⟩,
       ⟨some 90, (some (2, false)), .call 12 [.t 89]⟩,
       ⟨some 91, (some (2, false)), .bin .neq (.t 90) (.c (.d (.i .i64 0)))⟩,
       ⟨some 92, none, .pick (.t 88) (.c (.d (.b true))) (.t 91)⟩] false [])
      (.keep [0, 1, 6, 92] (.cond (.t 92)
       (.keep [] (.seq
       (.region [⟨some 4, none, .mov (.c (.d (.b false)))⟩] false [])
       (.ret)))
       (.skip))))
      (.keep [0, 1, 6] (.seq
      (.region [⟨some 93, none, .mov (.t 6)⟩,
       ⟨some 94, none, .bin .mul (.c (.d (.i .i64 8))) (.t 93)⟩,
       ⟨some 95, none, .bin .add (.t 94) (.c (.d (.i .i64 1)))⟩,
       ⟨some 96, none, .mov (.t 1)⟩,
       ⟨some 97, none, .bin .and (.t 96) (.c (.d (.i .i64 65535)))⟩,
       ⟨some 98, none, .mov (.t 0)⟩,
       ⟨some 99, none, .len false (.t 98)⟩,
       ⟨some 100, none, .mov (.t 6)⟩,
       ⟨some 101, none, .bin .mul (.c (.d (.i .i64 8))) (.t 100)⟩,
       ⟨some 102, none, .bin .sub (.t 99) (.t 101)⟩,
       ⟨some 103, none, .bin .add (.t 102) (.c (.d (.i .i64 1)))⟩,
       ⟨some 104, none, .bin .rem (.t 97) (.t 103)⟩,
       ⟨some 105, none, .bin .add (.t 95) (.t 104)⟩,
       ⟨some 14, none, .mov (.t 105)⟩] false [])
      (.keep [0, 6, 14] (.seq
       (.seq
       (.region [⟨some 106, none, .mov (.t 14)⟩,
        ⟨some 107, none, .mov (.t 0)⟩,
        ⟨some 108, none, .len false (.t 107)⟩,
        ⟨some 109, none, .bin .gtr (.t 106) (.t 108)⟩] false [])
       (.keep [0, 6, 14, 109] (.cond (.t 109)
        (.keep [] (.seq
        (.region [⟨some 4, none, .mov (.c (.d (.b true)))⟩] false [])
        (.ret)))
        (.skip))))
       (.keep [0, 6, 14] (.seq
       (.region [⟨some 111, none, .mov (.t 0)⟩,
        ⟨some 112, none, .mov (.t 14)⟩,
        ⟨some 113, none, .slc 1 (.t 111) none (some (.t 112)) none⟩,
        ⟨some 114, none, .call 35 [.t 113]⟩,
        ⟨some 115, none, .call 72 [.t 114]⟩,
        ⟨some 110, none, .mov (.t 115)⟩,
        ⟨some 116, none, .extract 0 (.t 110)⟩,
        ⟨some 117, none, .extract 1 (.t 110)⟩,
        ⟨some 118, none, .extract 2 (.t 110)⟩,
        ⟨some 15, none, .mov (.t 116)⟩,
        ⟨some 16, none, .mov (.t 117)⟩,
        ⟨some 17, none, .mov (.t 118)⟩] false [])
       (.keep [6, 16, 17] (.seq
        (.region [⟨some 119, none, .mov (.t 16)⟩,
         ⟨some 120, none, .mov (.t 6)⟩,
         ⟨some 121, none, .bin .eql (.t 119) (.t 120)⟩,
         ⟨some 122, none, .mov (.t 121)⟩,
         ⟨some 123, (some (3, true)), .mov (.t 17)⟩,
         ⟨some 124, (some (3, true)), .call 12 [.t 123]⟩,
         ⟨some 125, (some (3, true)), .bin .neq (.t 124) (.c (.d (.i .i64 0)))⟩,
         ⟨some 126, none, .pick (.t 122) (.t 125) (.c (.d (.b false)))⟩,
         ⟨some 4, none, .mov (.t 126)⟩] false [])
        (.ret)))))))))))))))))))))⟩

/-- spindle/spindlelaw3.CodeJoins -/
def F75_spindlelaw3_CodeJoins : SFn := ⟨3, true, true, [.tmp 6],
  .seq
   (.region [⟨some 6, none, .mov (.c (.d (.b false)))⟩] false [])
   (.keep [0, 1, 2] (.seq
   (.seq
    (.region [⟨some 23, none, .call 69 []⟩,
     ⟨some 24, none, .un .not (.t 23)⟩] false [])
    (.keep [0, 1, 2, 24] (.cond (.t 24)
    (.keep [] (.seq
     (.region [⟨some 6, none, .mov (.c (.d (.b false)))⟩] false [])
     (.ret)))
    (.skip))))
   (.keep [0, 1, 2] (.seq
    (.region [⟨some 26, none, .mov (.t 0)⟩,
     ⟨some 27, none, .call 80 [.t 26]⟩,
     ⟨some 28, none, .call 70 [.t 27]⟩,
     ⟨some 25, none, .mov (.t 28)⟩,
     ⟨some 29, none, .extract 0 (.t 25)⟩,
     ⟨some 30, none, .extract 1 (.t 25)⟩,
     ⟨some 31, none, .extract 2 (.t 25)⟩,
     ⟨some 7, none, .mov (.t 29)⟩,
     ⟨some 8, none, .mov (.t 30)⟩,
     ⟨some 9, none, .mov (.t 31)⟩] false [])
    (.keep [0, 1, 2, 7, 9] (.seq
    (.region [⟨some 33, none, .mov (.t 1)⟩,
     ⟨some 34, none, .call 80 [.t 33]⟩,
     ⟨some 35, none, .call 70 [.t 34]⟩,
     ⟨some 32, none, .mov (.t 35)⟩,
     ⟨some 36, none, .extract 0 (.t 32)⟩,
     ⟨some 37, none, .extract 1 (.t 32)⟩,
     ⟨some 38, none, .extract 2 (.t 32)⟩,
     ⟨some 10, none, .mov (.t 36)⟩,
     ⟨some 11, none, .mov (.t 37)⟩,
     ⟨some 12, none, .mov (.t 38)⟩] false [])
    (.keep [0, 1, 2, 7, 9, 10, 12] (.seq
     (.region [⟨some 40, none, .mov (.t 0)⟩,
      ⟨some 41, none, .call 80 [.t 40]⟩,
      ⟨some 42, none, .mov (.t 1)⟩,
      ⟨some 43, none, .app 5 40 (.t 41) (.t 42)⟩,
      ⟨some 44, none, .call 70 [.t 43]⟩,
      ⟨some 39, none, .mov (.t 44)⟩,
      ⟨some 45, none, .extract 0 (.t 39)⟩,
      ⟨some 46, none, .extract 1 (.t 39)⟩,
      ⟨some 47, none, .extract 2 (.t 39)⟩,
      ⟨some 13, none, .mov (.t 45)⟩,
      ⟨some 14, none, .mov (.t 46)⟩,
      ⟨some 15, none, .mov (.t 47)⟩] false [])
     (.keep [0, 1, 2, 7, 9, 10, 12, 13, 14, 15] (.seq
     (.seq
      (.region [⟨some 48, none, .mov (.t 9)⟩,
       ⟨some 49, none, .call 12 [.t 48]⟩,
       ⟨some 50, none, .bin .neq (.t 49) (.c (.d (.i .i64 0)))⟩] false [])
      (.keep [0, 1, 2, 7, 9, 10, 12, 13, 14, 15, 50] (.cond (.t 50)
      (.keep [9, 13, 15] (.seq
       (.region [⟨some 51, none, .mov (.t 15)⟩,
        ⟨some 52, none, .mov (.t 9)⟩,
        ⟨some 53, none, .bin .eql (.t 51) (.t 52)⟩,
        ⟨some 54, none, .mov (.t 53)⟩,
        ⟨some 55, (some (3, true)), .mov (.t 13)⟩,
        ⟨some 56, (some (3, true)), .len false (.t 55)⟩,
        ⟨some 57, (some (3, true)), .bin .eql (.t 56) (.c (.d (.i .i64 0)))⟩,
        ⟨some 58, none, .pick (.t 54) (.t 57) (.c (.d (.b false)))⟩,
        ⟨some 6, none, .mov (.t 58)⟩] false [])
       (.ret)))
      (.skip))))
     (.keep [0, 1, 2, 7, 10, 12, 13, 14, 15] (.seq
      (.seq
      (.region [⟨some 59, none, .mov (.t 12)⟩,
       ⟨some 60, none, .call 12 [.t 59]⟩,
       ⟨some 61, none, .bin .neq (.t 60) (.c (.d (.i .i64 0)))⟩] false [])
      (.keep [0, 1, 2, 7, 10, 12, 13, 14, 15, 61] (.cond (.t 61)
       (.keep [0, 12, 13, 14, 15] (.seq
       (.region [⟨some 62, none, .mov (.t 15)⟩,
        ⟨some 63, none, .mov (.t 12)⟩,
        ⟨some 64, none, .bin .eql (.t 62) (.t 63)⟩,
        ⟨some 65, none, .mov (.t 64)⟩,
        ⟨some 66, (some (3, true)), .mov (.t 14)⟩,
        ⟨some 67, (some (3, true)), .mov (.t 0)⟩,
        ⟨some 68, (some (3, true)), .len false (.t 67)⟩,
        ⟨some 69, (some (3, true)), .bin .geq (.t 66) (.t 68)⟩,
        ⟨some 70, none, .pick (.t 65) (.t 69) (.c (.d (.b false)))⟩,
        ⟨some 71, none, .mov (.t 70)⟩,
        ⟨some 72, (some (9, true)), .mov (.t 13)⟩,
        ⟨some 73, (some (9, true)), .len false (.t 72)⟩,
        ⟨some 74, (some (9, true)), .bin .eql (.t 73) (.c (.d (.i .i64 0)))⟩,
        ⟨some 75, none, .pick (.t 71) (.t 74) (.c (.d (.b false)))⟩,
        ⟨some 6, none, .mov (.t 75)⟩] false [])
       (.ret)))
       (.skip))))
      (.keep [0, 1, 2, 7, 10, 13, 15] (.seq
      (.region [⟨some 76, none, .mov (.t 7)⟩,
       ⟨some 77, none, .call 81 [.t 76]⟩,
       ⟨some 78, none, .mov (.t 10)⟩,
       ⟨some 79, none, .app 1 1 (.t 77) (.t 78)⟩,
       ⟨some 16, none, .mov (.t 79)⟩] false [])
      (.keep [0, 1, 2, 13, 15, 16] (.seq
       (.seq
       (.region [⟨some 80, none, .mov (.t 15)⟩,
        ⟨some 81, none, .call 12 [.t 80]⟩,
        ⟨some 82, none, .bin .neq (.t 81) (.c (.d (.i .i64 0)))⟩,
        ⟨some 83, none, .mov (.t 82)⟩,
        ⟨some 84, (some (3, false)), .mov (.t 13)⟩,
        ⟨some 85, (some (3, false)), .mov (.t 16)⟩,
        ⟨some 86, (some (3, false)), .call 73 [.t 84, .t 85]⟩,
        ⟨some 87, (some (3, false)), .un .not (.t 86)⟩,
        ⟨some 88, none, .pick (.t 83) (.c (.d (.b true))) (.t 87)⟩] false [])
       (.keep [0, 1, 2, 16, 88] (.cond (.t 88)
        (.keep [] (.seq
        (.region [⟨some 6, none, .mov (.c (.d (.b false)))⟩] false [])
        (.ret)))
        (.skip))))
       (.keep [0, 1, 2, 16] (.seq
       (.region [⟨some 90, none, .mov (.t 16)⟩,
        ⟨some 91, none, .call 81 [.t 90]⟩,
        ⟨some 92, none, .call 72 [.t 91]⟩,
        ⟨some 89, none, .mov (.t 92)⟩,
        ⟨some 93, none, .extract 0 (.t 89)⟩,
        ⟨some 94, none, .extract 1 (.t 89)⟩,
        ⟨some 95, none, .extract 2 (.t 89)⟩,
        ⟨some 17, none, .mov (.t 93)⟩,
        ⟨some 18, none, .mov (.t 94)⟩,
        ⟨some 19, none, .mov (.t 95)⟩] false [])
       (.keep [0, 1, 2, 16, 17, 19] (.seq
        (.region [⟨some 97, none, .mov (.t 16)⟩,
         ⟨some 98, none, .call 81 [.t 97]⟩,
         ⟨some 99, none, .mov (.t 2)⟩,
         ⟨some 100, none, .bin .and (.t 99) (.c (.d (.i .i64 65535)))⟩,
         ⟨some 101, none, .bin .rem (.t 100) (.c (.d (.i .i64 7)))⟩,
         ⟨some 102, none, .bin .add (.c (.d (.i .i64 1))) (.t 101)⟩,
         ⟨some 103, none, .appZ 1 1 [.i .u8 0] (.t 98) (.t 102)⟩,
         ⟨some 104, none, .call 72 [.t 103]⟩,
         ⟨some 96, none, .mov (.t 104)⟩,
         ⟨some 105, none, .extract 0 (.t 96)⟩,
         ⟨some 106, none, .extract 1 (.t 96)⟩,
         ⟨some 107, none, .extract 2 (.t 96)⟩,
         ⟨some 20, none, .mov (.t 105)⟩,
         ⟨some 21, none, .mov (.t 106)⟩,
         ⟨some 22, none, .mov (.t 107)⟩] false [])
        (.keep [0, 1, 16, 17, 19, 20, 21, 22] (.seq
        (.region [⟨some 108, none, .mov (.t 19)⟩,
         ⟨some 109, none, .call 12 [.t 108]⟩,
         ⟨some 110, none, .bin .eql (.t 109) (.c (.d (.i .i64 0)))⟩,
         ⟨some 111, none, .mov (.t 110)⟩,
         ⟨some 112, (some (3, true)), .mov (.t 17)⟩,
         ⟨some 113, (some (3, true)), .mov (.t 0)⟩,
         ⟨some 114, (some (3, true)), .call 80 [.t 113]⟩,
         ⟨some 115, (some (3, true)), .mov (.t 1)⟩,
         ⟨some 116, (some (3, true)), .app 5 40 (.t 114) (.t 115)⟩,
         ⟨some 117, (some (3, true)), .call 9 [.t 112, .t 116]⟩,
         ⟨some 118, none, .pick (.t 111) (.t 117) (.c (.d (.b false)))⟩,
         ⟨some 119, none, .mov (.t 118)⟩,
         ⟨some 120, (some (11, true)), .mov (.t 20)⟩,
         ⟨some 121, (some (11, true)), .len false (.t 120)⟩,
         ⟨some 122, (some (11, true)), .bin .eql (.t 121) (.c (.d (.i .i64 0)))⟩,
         ⟨some 123, none, .pick (.t 119) (.t 122) (.c (.d (.b false)))⟩,
         ⟨some 124, none, .mov (.t 123)⟩,
         ⟨some 125, (some (16, true)), .mov (.t 21)⟩,
         ⟨some 126, (some (16, true)), .mov (.t 16)⟩,
         ⟨some 127, (some (16, true)), .len false (.t 126)⟩,
         ⟨some 128, (some (16, true)), .bin .quo (.t 127) (.c (.d (.i .i64 8)))⟩,
         ⟨some 129, (some (16, true)), .bin .eql (.t 125) (.t 128)⟩,
         ⟨some 130, none, .pick (.t 124) (.t 129) (.c (.d (.b false)))⟩,
         ⟨some 131, none, .mov (.t 130)⟩,
         ⟨some 132, (some (23, true)), .mov (.t 22)⟩,
         ⟨some 133, (some (23, true)), .call 12 [.t 132]⟩,
         ⟨some 134, (some (23, true)), .bin .eql (.t 133) (.c (.d (.i .i64 30)))⟩,
         ⟨some 135, none, .pick (.t 131) (.t 134) (.c (.d (.b false)))⟩,
         ⟨some 6, none, .mov (.t 135)⟩] false [])
        (.ret)))))))))))))))))))))))⟩

def F135_spindlelaw3_CodeEncodes_b0 : SCode :=
  .seq
       (.seq
       (.region [⟨some 20, none, .mov (.t 5)⟩,
        ⟨some 21, none, .bin .leq (.t 20) (.c (.d (.i .i64 3)))⟩] false [])
       (.keep [0, 3, 4, 5, 21] (.cond (.t 21)
        (.skip)
        (.exit 0))))
       (.keep [0, 3, 4, 5] (.seq
       (.block 1 (.seq
        (.region [⟨some 24, none, .mov (.t 0)⟩,
         ⟨some 25, none, .mov (.t 5)⟩,
         ⟨some 26, none, .call 2 [.t 24, .t 25]⟩,
         ⟨some 6, none, .mov (.t 26)⟩] false [])
        (.keep [0, 3, 4, 5, 6] (.seq
         (.region [⟨some 27, none, .mov (.t 4)⟩,
          ⟨some 28, none, .mov (.t 6)⟩,
          ⟨some 29, none, .cpy 5 (.t 27) (.t 28)⟩] false [])
         (.keep [0, 3, 4, 5, 6] (.seq
         (.region [⟨some 31, none, .mov (.t 6)⟩,
          ⟨some 32, none, .call 134 [.t 31]⟩,
          ⟨some 30, none, .mov (.t 32)⟩,
          ⟨some 33, none, .extract 0 (.t 30)⟩,
          ⟨some 34, none, .extract 1 (.t 30)⟩,
          ⟨some 35, none, .extract 2 (.t 30)⟩,
          ⟨some 7, none, .mov (.t 33)⟩,
          ⟨some 8, none, .mov (.t 34)⟩,
          ⟨some 9, none, .mov (.t 35)⟩] false [])
         (.keep [0, 3, 4, 5, 6, 7, 8, 9] (.seq
          (.region [⟨some 37, none, .mov (.t 4)⟩,
           ⟨some 38, none, .call 70 [.t 37]⟩,
           ⟨some 36, none, .mov (.t 38)⟩,
           ⟨some 39, none, .extract 0 (.t 36)⟩,
           ⟨some 40, none, .extract 1 (.t 36)⟩,
           ⟨some 41, none, .extract 2 (.t 36)⟩,
           ⟨some 10, none, .mov (.t 39)⟩,
           ⟨some 11, none, .mov (.t 40)⟩,
           ⟨some 12, none, .mov (.t 41)⟩] false [])
          (.keep [0, 3, 4, 5, 6, 7, 8, 9, 10, 11, 12] (.seq
          (.region [⟨some 43, none, .mov (.t 4)⟩,
           ⟨some 44, none, .call 70 [.t 43]⟩,
           ⟨some 42, none, .mov (.t 44)⟩,
           ⟨some 45, none, .extract 0 (.t 42)⟩,
           ⟨some 46, none, .extract 1 (.t 42)⟩,
           ⟨some 47, none, .extract 2 (.t 42)⟩,
           ⟨some 13, none, .mov (.t 45)⟩,
           ⟨some 14, none, .mov (.t 46)⟩,
           ⟨some 15, none, .mov (.t 47)⟩] false [])
          (.keep [0, 3, 4, 5, 6, 7, 8, 9, 10, 11, 12, 13, 14, 15] (.seq
           (.seq
           (.region [⟨some 48, none, .mov (.t 12)⟩,
            ⟨some 49, none, .call 12 [.t 48]⟩,
            ⟨some 50, none, .mov (.t 9)⟩,
            ⟨some 51, none, .bin .neq (.t 49) (.t 50)⟩,
            ⟨some 52, none, .mov (.t 51)⟩,
            ⟨some 53, (some (4, false)), .mov (.t 15)⟩,
            ⟨some 54, (some (4, false)), .call 12 [.t 53]⟩,
            ⟨some 55, (some (4, false)), .mov (.t 9)⟩,
            ⟨some 56, (some (4, false)), .bin .neq (.t 54) (.t 55)⟩,
            ⟨some 57, none, .pick (.t 52) (.c (.d (.b true))) (.t 56)⟩,
            ⟨some 58, none, .mov (.t 57)⟩,
            ⟨some 59, (some (10, false)), .mov (.t 11)⟩,
            ⟨some 60, (some (10, false)), .mov (.t 8)⟩,
            ⟨some 61, (some (10, false)), .bin .neq (.t 59) (.t 60)⟩,
            ⟨some 62, none, .pick (.t 58) (.c (.d (.b true))) (.t 61)⟩,
            ⟨some 63, none, .mov (.t 62)⟩,
            ⟨some 64, (some (15, false)), .mov (.t 14)⟩,
            ⟨some 65, (some (15, false)), .mov (.t 8)⟩,
            ⟨some 66, (some (15, false)), .bin .neq (.t 64) (.t 65)⟩,
            ⟨some 67, none, .pick (.t 63) (.c (.d (.b true))) (.t 66)⟩,
            ⟨some 68, none, .mov (.t 67)⟩,
            ⟨some 69, (some (20, false)), .mov (.t 10)⟩,
            ⟨some 70, (some (20, false)), .mov (.t 7)⟩,
            ⟨some 71, (some (20, false)), .call 73 [.t 69, .t 70]⟩,
            ⟨some 72, (some (20, false)), .un .not (.t 71)⟩,
            ⟨some 73, none, .pick (.t 68) (.c (.d (.b true))) (.t 72)⟩,
            ⟨some 74, none, .mov (.t 73)⟩,
            ⟨some 75, (some (26, false)), .mov (.t 13)⟩,
            ⟨some 76, (some (26, false)), .mov (.t 7)⟩,
            ⟨some 77, (some (26, false)), .call 73 [.t 75, .t 76]⟩,
            ⟨some 78, (some (26, false)), .un .not (.t 77)⟩,
            ⟨some 79, none, .pick (.t 74) (.c (.d (.b true))) (.t 78)⟩,
            ⟨some 80, none, .mov (.t 79)⟩,
            ⟨some 81, (some (32, false)), .mov (.t 4)⟩,
            ⟨some 82, (some (32, false)), .mov (.t 6)⟩,
            ⟨some 83, (some (32, false)), .call 4 [.t 81, .t 82]⟩,
            ⟨some 84, (some (32, false)), .un .not (.t 83)⟩,
            ⟨some 85, none, .pick (.t 80) (.c (.d (.b true))) (.t 84)⟩] false [])
           (.keep [0, 3, 4, 5, 10, 13, 85] (.cond (.t 85)
            (.keep [] (.seq
            (.region [⟨some 2, none, .mov (.c (.d (.b false)))⟩] false [])
            (.ret)))
            (.skip))))
           (.keep [0, 3, 4, 5, 10, 13] (.seq
           (.region [⟨some 86, none, .mov (.t 10)⟩,
            ⟨some 87, none, .mov (.t 5)⟩,
            ⟨some 88, none, .bin .mul (.c (.d (.i .i64 3))) (.t 87)⟩,
            ⟨some 89, none, .call 126 [.t 3, .t 86, .t 88]⟩] false [])
           (.keep [0, 3, 4, 5, 13] (.seq
            (.region [⟨some 90, none, .mov (.t 13)⟩,
             ⟨some 91, none, .mov (.t 5)⟩,
             ⟨some 92, none, .bin .mul (.c (.d (.i .i64 3))) (.t 91)⟩,
             ⟨some 93, none, .bin .add (.t 92) (.c (.d (.i .i64 1)))⟩,
             ⟨some 94, none, .call 126 [.t 3, .t 90, .t 93]⟩] false [])
            (.keep [0, 3, 4, 5] (.seq
            (.region [⟨some 95, none, .call 123 [.t 3]⟩,
             ⟨some 96, none, .un .not (.t 95)⟩] false [])
            (.keep [0, 3, 4, 5, 96] (.cond (.t 96)
             (.keep [] (.seq
             (.region [⟨some 2, none, .mov (.c (.d (.b false)))⟩] false [])
             (.ret)))
             (.skip)))))))))))))))))))))
       (.keep [0, 3, 4, 5] (.region [⟨some 22, none, .mov (.t 5)⟩,
        ⟨some 23, none, .bin .add (.t 22) (.c (.d (.i .i64 1)))⟩,
        ⟨some 5, none, .mov (.t 23)⟩] false []))))
/-- spindle/spindlelaw3.CodeEncodes -/
def F135_spindlelaw3_CodeEncodes : SFn := ⟨1, true, true, [.tmp 2],
  .seq
   (.region [⟨some 2, none, .mov (.c (.d (.b false)))⟩] false [])
   (.keep [0] (.seq
   (.seq
    (.region [⟨some 16, none, .call 69 []⟩,
     ⟨some 17, none, .un .not (.t 16)⟩] false [])
    (.keep [0, 17] (.cond (.t 17)
    (.keep [] (.seq
     (.region [⟨some 2, none, .mov (.c (.d (.b false)))⟩] false [])
     (.ret)))
    (.skip))))
   (.keep [0] (.seq
    (.region [⟨some 3, none, .alloc [.i .i64 0, .i .i64 0, .b false, .sl 0 false [], .sl 0 false [], .sl 0 false [], .sl 0 false [], .sl 0 false []]⟩] false [])
    (.keep [0, 3] (.seq
    (.region [⟨some 18, none, .mov (.t 0)⟩,
     ⟨some 19, none, .call 1 [.t 18]⟩,
     ⟨some 4, none, .mov (.t 19)⟩] false [])
    (.keep [0, 3, 4] (.seq
     (.seq
     (.region [⟨some 5, none, .mov (.c (.d (.i .i64 0)))⟩] false [])
     (.keep [0, 3, 4, 5] (.block 0 (.loop [0, 3, 4, 5] false F135_spindlelaw3_CodeEncodes_b0))))
     (.keep [] (.seq
     (.region [⟨some 2, none, .mov (.c (.d (.b true)))⟩] false [])
     (.ret)))))))))))⟩
end Go.Sh
