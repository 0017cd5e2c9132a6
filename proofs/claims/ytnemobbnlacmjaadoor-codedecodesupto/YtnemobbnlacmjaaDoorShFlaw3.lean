/- Shadow functions of law3, written by tr.py. -/
import Derived.Test.YtnemobbnlacmjaaDoorShBa
namespace Go.Sh
/-- spindle/spindlelaw3.awake -/
def F69_spindlelaw3_awake : SFn := ⟨0, true, true, [.tmp 0],
  .seq
   (.region [⟨some 0, none, .mov (.c (.d (.b false)))⟩] false [])
   (.keep [] (.seq
   (.region [⟨some 8, none, .build [.i .i64 0, .i .i64 0, .i .i64 0, .i .i64 0, .i .i64 0] [(0, 1, .c (.d (.i .i64 149)))]⟩,
    ⟨some 1, none, .alloc [.i .i64 0, .i .i64 0, .i .i64 0, .i .i64 0, .i .i64 0]⟩,
    ⟨none, none, .store 5 (.t 1) (.t 8)⟩] false [])
   (.keep [1] (.seq
    (.region [⟨some 10, none, .load 5 true (.t 1)⟩,
     ⟨some 11, none, .lits 1 [.i .i64 0, .i .i64 0, .i .i64 0, .i .i64 0, .i .i64 0] [(0, 5, .t 10)]⟩,
     ⟨some 12, none, .call 70 [.t 11]⟩,
     ⟨some 9, none, .mov (.t 12)⟩,
     ⟨some 13, none, .extract 0 (.t 9)⟩,
     ⟨some 14, none, .extract 1 (.t 9)⟩,
     ⟨some 15, none, .extract 2 (.t 9)⟩,
     ⟨some 2, none, .mov (.t 13)⟩,
     ⟨some 3, none, .mov (.t 14)⟩,
     ⟨some 4, none, .mov (.t 15)⟩] false [])
    (.keep [1, 2, 3, 4] (.seq
    (.region [⟨some 17, none, .lits 8 [.i .u8 0] [(0, 1, .c (.d (.i .u8 149))), (1, 1, .c (.d (.i .u8 0))), (2, 1, .c (.d (.i .u8 0))), (3, 1, .c (.d (.i .u8 0))), (4, 1, .c (.d (.i .u8 0))), (5, 1, .c (.d (.i .u8 0))), (6, 1, .c (.d (.i .u8 0))), (7, 1, .c (.d (.i .u8 0)))]⟩,
     ⟨some 18, none, .call 72 [.t 17]⟩,
     ⟨some 16, none, .mov (.t 18)⟩,
     ⟨some 19, none, .extract 0 (.t 16)⟩,
     ⟨some 20, none, .extract 1 (.t 16)⟩,
     ⟨some 21, none, .extract 2 (.t 16)⟩,
     ⟨some 5, none, .mov (.t 19)⟩,
     ⟨some 6, none, .mov (.t 20)⟩,
     ⟨some 7, none, .mov (.t 21)⟩] false [])
    (.keep [1, 2, 3, 4, 5, 6, 7] (.seq
     (.region [⟨some 22, none, .mov (.t 4)⟩,
      ⟨some 23, none, .call 12 [.t 22]⟩,
      ⟨some 24, none, .bin .eql (.t 23) (.c (.d (.i .i64 0)))⟩,
      ⟨some 25, none, .mov (.t 24)⟩,
      ⟨some 26, (some (3, true)), .mov (.t 7)⟩,
      ⟨some 27, (some (3, true)), .call 12 [.t 26]⟩,
      ⟨some 28, (some (3, true)), .bin .eql (.t 27) (.c (.d (.i .i64 0)))⟩,
      ⟨some 29, none, .pick (.t 25) (.t 28) (.c (.d (.b false)))⟩,
      ⟨some 30, none, .mov (.t 29)⟩,
      ⟨some 31, (some (8, true)), .mov (.t 3)⟩,
      ⟨some 32, (some (8, true)), .bin .eql (.t 31) (.c (.d (.i .i64 0)))⟩,
      ⟨some 33, none, .pick (.t 30) (.t 32) (.c (.d (.b false)))⟩,
      ⟨some 34, none, .mov (.t 33)⟩,
      ⟨some 35, (some (12, true)), .mov (.t 6)⟩,
      ⟨some 36, (some (12, true)), .bin .eql (.t 35) (.c (.d (.i .i64 0)))⟩,
      ⟨some 37, none, .pick (.t 34) (.t 36) (.c (.d (.b false)))⟩,
      ⟨some 38, none, .mov (.t 37)⟩,
      ⟨some 39, (some (16, true)), .mov (.t 2)⟩,
      ⟨some 40, (some (16, true)), .len false (.t 39)⟩,
      ⟨some 41, (some (16, true)), .bin .eql (.t 40) (.c (.d (.i .i64 8)))⟩,
      ⟨some 42, none, .pick (.t 38) (.t 41) (.c (.d (.b false)))⟩,
      ⟨some 43, none, .mov (.t 42)⟩,
      ⟨some 44, (some (21, true)), .mov (.t 2)⟩,
      ⟨some 45, (some (21, true)), .iaddr 1 (.t 44) (.c (.d (.i .i64 0)))⟩,
      ⟨some 46, (some (21, true)), .load 1 false (.t 45)⟩,
      ⟨some 47, (some (21, true)), .bin .eql (.t 46) (.c (.d (.i .u8 149)))⟩,
      ⟨some 48, none, .pick (.t 43) (.t 47) (.c (.d (.b false)))⟩,
      ⟨some 49, none, .mov (.t 48)⟩,
      ⟨some 50, (some (27, true)), .mov (.t 5)⟩,
      ⟨some 51, (some (27, true)), .len false (.t 50)⟩,
      ⟨some 52, (some (27, true)), .bin .eql (.t 51) (.c (.d (.i .i64 1)))⟩,
      ⟨some 53, none, .pick (.t 49) (.t 52) (.c (.d (.b false)))⟩,
      ⟨some 54, none, .mov (.t 53)⟩,
      ⟨some 55, (some (32, true)), .mov (.t 5)⟩,
      ⟨some 56, (some (32, true)), .iaddr 5 (.t 55) (.c (.d (.i .i64 0)))⟩,
      ⟨some 57, (some (32, true)), .load 5 true (.t 56)⟩,
      ⟨some 58, (some (32, true)), .load 5 true (.t 1)⟩,
      ⟨some 59, (some (32, true)), .eqv false [9, 0, 0, 0, 0, 0] (.t 57) (.t 58)⟩,
      ⟨some 60, none, .pick (.t 54) (.t 59) (.c (.d (.b false)))⟩,
      ⟨some 0, none, .mov (.t 60)⟩] true [0, 1, 3, 7, 15, 31, 63, 127, 255, 511, 1023, 2047, 4095, 8191, 16383, 32767, 65535, 131071, 262143, 524287, 1048575, 2097151, 4194303, 8388607, 16777215, 33554431, 67108863, 134217727, 268435455, 536870911, 1073741823, 2147483647, 4294967295, 8589934591, 17179869183, 34359738367, 8589934591, 137438953471, 274877906943, 549755813887])
     (.ret)))))))))⟩

def F71_spindlelaw3_CodeBack_b0 : SCode :=
  .seq
      (.seq
       (.region [⟨some 19, none, .mov (.t 6)⟩,
        ⟨some 20, none, .mov (.t 0)⟩,
        ⟨some 21, none, .len false (.t 20)⟩,
        ⟨some 22, none, .bin .lss (.t 19) (.t 21)⟩,
        ⟨some 23, none, .mov (.t 22)⟩,
        ⟨some 24, (some (4, true)), .mov (.t 0)⟩,
        ⟨some 25, (some (4, true)), .mov (.t 6)⟩,
        ⟨some 26, (some (4, true)), .iaddr 5 (.t 24) (.t 25)⟩,
        ⟨some 27, (some (4, true)), .load 5 true (.t 26)⟩,
        ⟨some 28, (some (4, true)), .call 27 [.t 27]⟩,
        ⟨some 29, (some (4, true)), .call 12 [.t 28]⟩,
        ⟨some 30, (some (4, true)), .bin .eql (.t 29) (.c (.d (.i .i64 0)))⟩,
        ⟨some 31, none, .pick (.t 23) (.t 30) (.c (.d (.b false)))⟩] false [])
       (.keep [0, 3, 4, 5, 6, 31] (.cond (.t 31)
       (.skip)
       (.exit 0))))
      (.keep [0, 3, 4, 5, 6] (.block 1 (.region [⟨some 32, none, .mov (.t 6)⟩,
        ⟨some 33, none, .bin .add (.t 32) (.c (.d (.i .i64 1)))⟩,
        ⟨some 6, none, .mov (.t 33)⟩] false [])))
/-- spindle/spindlelaw3.CodeBack -/
def F71_spindlelaw3_CodeBack : SFn := ⟨1, true, true, [.tmp 2],
  .seq
   (.region [⟨some 2, none, .mov (.c (.d (.b false)))⟩] false [])
   (.keep [0] (.seq
   (.seq
    (.region [⟨some 10, none, .call 69 []⟩,
     ⟨some 11, none, .un .not (.t 10)⟩] false [])
    (.keep [0, 11] (.cond (.t 11)
    (.keep [] (.seq
     (.region [⟨some 2, none, .mov (.c (.d (.b false)))⟩] false [])
     (.ret)))
    (.skip))))
   (.keep [0] (.seq
    (.region [⟨some 13, none, .mov (.t 0)⟩,
     ⟨some 14, none, .call 7 [.t 13]⟩,
     ⟨some 15, none, .call 70 [.t 14]⟩,
     ⟨some 12, none, .mov (.t 15)⟩,
     ⟨some 16, none, .extract 0 (.t 12)⟩,
     ⟨some 17, none, .extract 1 (.t 12)⟩,
     ⟨some 18, none, .extract 2 (.t 12)⟩,
     ⟨some 3, none, .mov (.t 16)⟩,
     ⟨some 4, none, .mov (.t 17)⟩,
     ⟨some 5, none, .mov (.t 18)⟩] false [])
    (.keep [0, 3, 4, 5] (.seq
    (.region [⟨some 6, none, .mov (.c (.d (.i .i64 0)))⟩] false [])
    (.keep [0, 3, 4, 5, 6] (.seq
     (.block 0 (.loop [0, 3, 4, 5, 6] false F71_spindlelaw3_CodeBack_b0))
     (.keep [0, 3, 4, 5, 6] (.seq
     (.seq
      (.region [⟨some 34, none, .mov (.t 6)⟩,
       ⟨some 35, none, .mov (.t 0)⟩,
       ⟨some 36, none, .len false (.t 35)⟩,
       ⟨some 37, none, .bin .lss (.t 34) (.t 36)⟩] false [])
      (.keep [0, 3, 4, 5, 6, 37] (.cond (.t 37)
      (.keep [0, 3, 4, 5, 6] (.seq
       (.region [⟨some 38, none, .mov (.t 3)⟩,
        ⟨some 39, none, .len false (.t 38)⟩,
        ⟨some 40, none, .bin .eql (.t 39) (.c (.d (.i .i64 0)))⟩,
        ⟨some 41, none, .mov (.t 40)⟩,
        ⟨some 42, (some (3, true)), .mov (.t 4)⟩,
        ⟨some 43, (some (3, true)), .mov (.t 6)⟩,
        ⟨some 44, (some (3, true)), .bin .eql (.t 42) (.t 43)⟩,
        ⟨some 45, none, .pick (.t 41) (.t 44) (.c (.d (.b false)))⟩,
        ⟨some 46, none, .mov (.t 45)⟩,
        ⟨some 47, (some (8, true)), .mov (.t 5)⟩,
        ⟨some 48, (some (8, true)), .mov (.t 0)⟩,
        ⟨some 49, (some (8, true)), .mov (.t 6)⟩,
        ⟨some 50, (some (8, true)), .iaddr 5 (.t 48) (.t 49)⟩,
        ⟨some 51, (some (8, true)), .load 5 true (.t 50)⟩,
        ⟨some 52, (some (8, true)), .call 27 [.t 51]⟩,
        ⟨some 53, (some (8, true)), .bin .eql (.t 47) (.t 52)⟩,
        ⟨some 54, none, .pick (.t 46) (.t 53) (.c (.d (.b false)))⟩,
        ⟨some 2, none, .mov (.t 54)⟩] false [])
       (.ret)))
      (.skip))))
     (.keep [0, 3, 4, 5] (.seq
      (.seq
      (.region [⟨some 55, none, .mov (.t 5)⟩,
       ⟨some 56, none, .call 12 [.t 55]⟩,
       ⟨some 57, none, .bin .neq (.t 56) (.c (.d (.i .i64 0)))⟩,
       ⟨some 58, none, .mov (.t 57)⟩,
       ⟨some 59, (some (3, false)), .mov (.t 4)⟩,
       ⟨some 60, (some (3, false)), .bin .neq (.t 59) (.c (.d (.i .i64 0)))⟩,
       ⟨some 61, none, .pick (.t 58) (.c (.d (.b true))) (.t 60)⟩,
       ⟨some 62, none, .mov (.t 61)⟩,
       ⟨some 63, (some (7, false)), .mov (.t 3)⟩,
       ⟨some 64, (some (7, false)), .len false (.t 63)⟩,
       ⟨some 65, (some (7, false)), .mov (.t 0)⟩,
       ⟨some 66, (some (7, false)), .call 7 [.t 65]⟩,
       ⟨some 67, (some (7, false)), .call 0 [.t 66]⟩,
       ⟨some 68, (some (7, false)), .bin .mul (.c (.d (.i .i64 8))) (.t 67)⟩,
       ⟨some 69, (some (7, false)), .bin .neq (.t 64) (.t 68)⟩,
       ⟨some 70, none, .pick (.t 62) (.c (.d (.b true))) (.t 69)⟩] false [])
      (.keep [0, 3, 70] (.cond (.t 70)
       (.keep [] (.seq
       (.region [⟨some 2, none, .mov (.c (.d (.b false)))⟩] false [])
       (.ret)))
       (.skip))))
      (.keep [0, 3] (.seq
      (.region [⟨some 72, none, .mov (.t 3)⟩,
       ⟨some 73, none, .call 72 [.t 72]⟩,
       ⟨some 71, none, .mov (.t 73)⟩,
       ⟨some 74, none, .extract 0 (.t 71)⟩,
       ⟨some 75, none, .extract 1 (.t 71)⟩,
       ⟨some 76, none, .extract 2 (.t 71)⟩,
       ⟨some 7, none, .mov (.t 74)⟩,
       ⟨some 8, none, .mov (.t 75)⟩,
       ⟨some 9, none, .mov (.t 76)⟩] false [])
      (.keep [0, 7, 8, 9] (.seq
       (.region [⟨some 77, none, .mov (.t 9)⟩,
        ⟨some 78, none, .call 12 [.t 77]⟩,
        ⟨some 79, none, .bin .eql (.t 78) (.c (.d (.i .i64 0)))⟩,
        ⟨some 80, none, .mov (.t 79)⟩,
        ⟨some 81, (some (3, true)), .mov (.t 8)⟩,
        ⟨some 82, (some (3, true)), .bin .eql (.t 81) (.c (.d (.i .i64 0)))⟩,
        ⟨some 83, none, .pick (.t 80) (.t 82) (.c (.d (.b false)))⟩,
        ⟨some 84, none, .mov (.t 83)⟩,
        ⟨some 85, (some (7, true)), .mov (.t 7)⟩,
        ⟨some 86, (some (7, true)), .mov (.t 0)⟩,
        ⟨some 87, (some (7, true)), .call 9 [.t 85, .t 86]⟩,
        ⟨some 88, none, .pick (.t 84) (.t 87) (.c (.d (.b false)))⟩,
        ⟨some 2, none, .mov (.t 88)⟩] false [])
       (.ret)))))))))))))))))⟩

/-- spindle/spindlelaw3.CodeForth -/
def F74_spindlelaw3_CodeForth : SFn := ⟨2, true, true, [.tmp 4],
  .seq
   (.region [⟨some 4, none, .mov (.c (.d (.b false)))⟩] false [])
   (.keep [0, 1] (.seq
   (.seq
    (.region [⟨some 18, none, .call 69 []⟩,
     ⟨some 19, none, .un .not (.t 18)⟩] false [])
    (.keep [0, 1, 19] (.cond (.t 19)
    (.keep [] (.seq
     (.region [⟨some 4, none, .mov (.c (.d (.b false)))⟩] false [])
     (.ret)))
    (.skip))))
   (.keep [0, 1] (.seq
    (.region [⟨some 21, none, .mov (.t 0)⟩,
     ⟨some 22, none, .call 35 [.t 21]⟩,
     ⟨some 23, none, .call 72 [.t 22]⟩,
     ⟨some 20, none, .mov (.t 23)⟩,
     ⟨some 24, none, .extract 0 (.t 20)⟩,
     ⟨some 25, none, .extract 1 (.t 20)⟩,
     ⟨some 26, none, .extract 2 (.t 20)⟩,
     ⟨some 5, none, .mov (.t 24)⟩,
     ⟨some 6, none, .mov (.t 25)⟩,
     ⟨some 7, none, .mov (.t 26)⟩] false [])
    (.keep [0, 1, 5, 6, 7] (.seq
    (.seq
     (.region [⟨some 27, none, .mov (.t 7)⟩,
      ⟨some 28, none, .call 12 [.t 27]⟩,
      ⟨some 29, none, .bin .eql (.t 28) (.c (.d (.i .i64 0)))⟩] false [])
     (.keep [0, 1, 5, 6, 7, 29] (.cond (.t 29)
     (.keep [0, 5, 6] (.seq
      (.region [⟨some 31, none, .mov (.t 5)⟩,
       ⟨some 32, none, .call 70 [.t 31]⟩,
       ⟨some 30, none, .mov (.t 32)⟩,
       ⟨some 33, none, .extract 0 (.t 30)⟩,
       ⟨some 34, none, .extract 1 (.t 30)⟩,
       ⟨some 35, none, .extract 2 (.t 30)⟩,
       ⟨some 8, none, .mov (.t 33)⟩,
       ⟨some 9, none, .mov (.t 34)⟩,
       ⟨some 10, none, .mov (.t 35)⟩] false [])
      (.keep [0, 6, 8, 9, 10] (.seq
      (.region [⟨some 36, none, .mov (.t 6)⟩,
       ⟨some 37, none, .bin .eql (.t 36) (.c (.d (.i .i64 0)))⟩,
       ⟨some 38, none, .mov (.t 37)⟩,
       ⟨some 39, (some (2, true)), .mov (.t 9)⟩,
       ⟨some 40, (some (2, true)), .bin .eql (.t 39) (.c (.d (.i .i64 0)))⟩,
       ⟨some 41, none, .pick (.t 38) (.t 40) (.c (.d (.b false)))⟩,
       ⟨some 42, none, .mov (.t 41)⟩,
       ⟨some 43, (some (6, true)), .mov (.t 10)⟩,
       ⟨some 44, (some (6, true)), .call 12 [.t 43]⟩,
       ⟨some 45, (some (6, true)), .bin .eql (.t 44) (.c (.d (.i .i64 0)))⟩,
       ⟨some 46, none, .pick (.t 42) (.t 45) (.c (.d (.b false)))⟩,
       ⟨some 47, none, .mov (.t 46)⟩,
       ⟨some 48, (some (11, true)), .mov (.t 8)⟩,
       ⟨some 49, (some (11, true)), .mov (.t 0)⟩,
       ⟨some 50, (some (11, true)), .call 73 [.t 48, .t 49]⟩,
       ⟨some 51, none, .pick (.t 47) (.t 50) (.c (.d (.b false)))⟩,
       ⟨some 4, none, .mov (.t 51)⟩] false [])
      (.ret)))))
     (.skip))))
    (.keep [0, 1, 5, 6, 7] (.seq
     (.seq
     (.region [⟨some 52, none, .mov (.t 5)⟩,
      ⟨some 53, none, .len false (.t 52)⟩,
      ⟨some 54, none, .bin .neq (.t 53) (.c (.d (.i .i64 0)))⟩,
      ⟨some 55, none, .mov (.t 54)⟩,
      ⟨some 56, (some (3, false)), .mov (.t 6)⟩,
      ⟨some 57, (some (3, false)), .bin .lss (.t 56) (.c (.d (.i .i64 0)))⟩,
      ⟨some 58, none, .pick (.t 55) (.c (.d (.b true))) (.t 57)⟩,
      ⟨some 59, none, .mov (.t 58)⟩,
      ⟨some 60, (some (7, false)), .mov (.t 6)⟩,
      ⟨some 61, (some (7, false)), .bin .mul (.c (.d (.i .i64 8))) (.t 60)⟩,
      ⟨some 62, (some (7, false)), .mov (.t 0)⟩,
      ⟨some 63, (some (7, false)), .len false (.t 62)⟩,
      ⟨some 64, (some (7, false)), .bin .gtr (.t 61) (.t 63)⟩,
      ⟨some 65, none, .pick (.t 59) (.c (.d (.b true))) (.t 64)⟩,
      ⟨some 66, none, .mov (.t 65)⟩,
      ⟨some 67, (some (14, false)), .mov (.t 7)⟩,
      ⟨some 68, (some (14, false)), .call 12 [.t 67]⟩,
      ⟨some 69, (some (14, false)), .bin .lss (.t 68) (.c (.d (.i .i64 30)))⟩,
      ⟨some 70, none, .pick (.t 66) (.c (.d (.b true))) (.t 69)⟩,
      ⟨some 71, none, .mov (.t 70)⟩,
      ⟨some 72, (some (19, false)), .mov (.t 7)⟩,
      ⟨some 73, (some (19, false)), .call 12 [.t 72]⟩,
      ⟨some 74, (some (19, false)), .bin .gtr (.t 73) (.c (.d (.i .i64 32)))⟩,
      ⟨some 75, none, .pick (.t 71) (.c (.d (.b true))) (.t 74)⟩] false [])
     (.keep [0, 1, 6, 75] (.cond (.t 75)
      (.keep [] (.seq
      (.region [⟨some 4, none, .mov (.c (.d (.b false)))⟩] false [])
      (.ret)))
      (.skip))))
     (.keep [0, 1, 6] (.seq
     (.region [⟨some 77, none, .mov (.t 0)⟩,
      ⟨some 78, none, .mov (.t 6)⟩,
      ⟨some 79, none, .bin .mul (.c (.d (.i .i64 8))) (.t 78)⟩,
      ⟨some 80, none, .slc 1 (.t 77) none (some (.t 79)) none⟩,
      ⟨some 81, none, .call 35 [.t 80]⟩,
      ⟨some 82, none, .call 72 [.t 81]⟩,
      ⟨some 76, none, .mov (.t 82)⟩,
      ⟨some 83, none, .extract 0 (.t 76)⟩,
      ⟨some 84, none, .extract 1 (.t 76)⟩,
      ⟨some 85, none, .extract 2 (.t 76)⟩,
      ⟨some 11, none, .mov (.t 83)⟩,
      ⟨some 12, none, .mov (.t 84)⟩,
      ⟨some 13, none, .mov (.t 85)⟩] false [])
     (.keep [0, 1, 6, 12, 13] (.seq
      (.seq
      (.region [⟨some 86, none, .mov (.t 12)⟩,
       ⟨some 87, none, .bin .neq (.t 86) (.c (.d (.i .i64 0)))⟩,
       ⟨some 88, none, .mov (.t 87)⟩,
       ⟨some 89, (some (2, false)), .mov (.t 13)⟩,
       ⟨some 90, (some (2, false)), .call 12 [.t 89]⟩,
       ⟨some 91, (some (2, false)), .bin .neq (.t 90) (.c (.d (.i .i64 0)))⟩,
       ⟨some 92, none, .pick (.t 88) (.c (.d (.b true))) (.t 91)⟩] false [])
      (.keep [0, 1, 6, 92] (.cond (.t 92)
       (.keep [] (.seq
       (.region [⟨some 4, none, .mov (.c (.d (.b false)))⟩] false [])
       (.ret)))
       (.skip))))
      (.keep [0, 1, 6] (.seq
      (.region [⟨some 93, none, .mov (.t 6)⟩,
       ⟨some 94, none, .bin .mul (.c (.d (.i .i64 8))) (.t 93)⟩,
       ⟨some 95, none, .bin .add (.t 94) (.c (.d (.i .i64 1)))⟩,
       ⟨some 96, none, .mov (.t 1)⟩,
       ⟨some 97, none, .bin .and (.t 96) (.c (.d (.i .i64 65535)))⟩,
       ⟨some 98, none, .mov (.t 0)⟩,
       ⟨some 99, none, .len false (.t 98)⟩,
       ⟨some 100, none, .mov (.t 6)⟩,
       ⟨some 101, none, .bin .mul (.c (.d (.i .i64 8))) (.t 100)⟩,
       ⟨some 102, none, .bin .sub (.t 99) (.t 101)⟩,
       ⟨some 103, none, .bin .add (.t 102) (.c (.d (.i .i64 1)))⟩,
       ⟨some 104, none, .bin .rem (.t 97) (.t 103)⟩,
       ⟨some 105, none, .bin .add (.t 95) (.t 104)⟩,
       ⟨some 14, none, .mov (.t 105)⟩] false [])
      (.keep [0, 6, 14] (.seq
       (.seq
       (.region [⟨some 106, none, .mov (.t 14)⟩,
        ⟨some 107, none, .mov (.t 0)⟩,
        ⟨some 108, none, .len false (.t 107)⟩,
        ⟨some 109, none, .bin .gtr (.t 106) (.t 108)⟩] false [])
       (.keep [0, 6, 14, 109] (.cond (.t 109)
        (.keep [] (.seq
        (.region [⟨some 4, none, .mov (.c (.d (.b true)))⟩] false [])
        (.ret)))
        (.skip))))
       (.keep [0, 6, 14] (.seq
       (.region [⟨some 111, none, .mov (.t 0)⟩,
        ⟨some 112, none, .mov (.t 14)⟩,
        ⟨some 113, none, .slc 1 (.t 111) none (some (.t 112)) none⟩,
        ⟨some 114, none, .call 35 [.t 113]⟩,
        ⟨some 115, none, .call 72 [.t 114]⟩,
        ⟨some 110, none, .mov (.t 115)⟩,
        ⟨some 116, none, .extract 0 (.t 110)⟩,
        ⟨some 117, none, .extract 1 (.t 110)⟩,
        ⟨some 118, none, .extract 2 (.t 110)⟩,
        ⟨some 15, none, .mov (.t 116)⟩,
        ⟨some 16, none, .mov (.t 117)⟩,
        ⟨some 17, none, .mov (.t 118)⟩] false [])
       (.keep [6, 16, 17] (.seq
        (.region [⟨some 119, none, .mov (.t 16)⟩,
         ⟨some 120, none, .mov (.t 6)⟩,
         ⟨some 121, none, .bin .eql (.t 119) (.t 120)⟩,
         ⟨some 122, none, .mov (.t 121)⟩,
         ⟨some 123, (some (3, true)), .mov (.t 17)⟩,
         ⟨some 124, (some (3, true)), .call 12 [.t 123]⟩,
         ⟨some 125, (some (3, true)), .bin .neq (.t 124) (.c (.d (.i .i64 0)))⟩,
         ⟨some 126, none, .pick (.t 122) (.t 125) (.c (.d (.b false)))⟩,
         ⟨some 4, none, .mov (.t 126)⟩] false [])
        (.ret)))))))))))))))))))))⟩

/-- spindle/spindlelaw3.TurnedBytes -/
def F212_spindlelaw3_TurnedBytes : SFn := ⟨2, true, true, [.tmp 4],
  .seq
   (.region [⟨some 4, none, .mov (.c (.d (.sl 0 false [])))⟩] false [])
   (.keep [0, 1] (.seq
   (.region [⟨some 6, none, .mov (.t 0)⟩,
    ⟨some 7, none, .call 225 [.t 6]⟩,
    ⟨some 5, none, .mov (.t 7)⟩] false [])
   (.keep [0, 1, 5] (.seq
    (.seq
    (.region [⟨some 8, none, .mov (.t 1)⟩,
     ⟨some 9, none, .bin .eql (.t 8) (.c (.d (.i .i64 1)))⟩,
     ⟨some 10, none, .mov (.t 9)⟩,
     ⟨some 11, (some (2, true)), .mov (.t 5)⟩,
     ⟨some 12, (some (2, true)), .len false (.t 11)⟩,
     ⟨some 13, (some (2, true)), .bin .gtr (.t 12) (.c (.d (.i .i64 0)))⟩,
     ⟨some 14, none, .pick (.t 10) (.t 13) (.c (.d (.b false)))⟩] false [])
    (.keep [0, 1, 5, 14] (.cond (.t 14)
     (.keep [0, 1, 5] (.region [⟨some 15, none, .mov (.t 5)⟩,
      ⟨some 16, none, .mov (.t 5)⟩,
      ⟨some 17, none, .len false (.t 16)⟩,
      ⟨some 18, none, .bin .quo (.t 17) (.c (.d (.i .i64 2)))⟩,
      ⟨some 19, none, .mov (.t 5)⟩,
      ⟨some 20, none, .mov (.t 5)⟩,
      ⟨some 21, none, .len false (.t 20)⟩,
      ⟨some 22, none, .bin .quo (.t 21) (.c (.d (.i .i64 2)))⟩,
      ⟨some 23, none, .iaddr 1 (.t 19) (.t 22)⟩,
      ⟨some 24, none, .load 1 false (.t 23)⟩,
      ⟨some 25, none, .bin .xor (.t 24) (.c (.d (.i .u8 1)))⟩,
      ⟨some 26, none, .iaddr 1 (.t 15) (.t 18)⟩,
      ⟨none, none, .store 1 (.t 26) (.t 25)⟩] false []))
     (.skip))))
    (.keep [0, 1, 5] (.seq
    (.seq
     (.region [⟨some 27, none, .mov (.t 1)⟩,
      ⟨some 28, none, .bin .eql (.t 27) (.c (.d (.i .i64 2)))⟩,
      ⟨some 29, none, .mov (.t 28)⟩,
      ⟨some 30, (some (2, true)), .mov (.t 5)⟩,
      ⟨some 31, (some (2, true)), .len false (.t 30)⟩,
      ⟨some 32, (some (2, true)), .bin .geq (.t 31) (.c (.d (.i .i64 8)))⟩,
      ⟨some 33, none, .pick (.t 29) (.t 32) (.c (.d (.b false)))⟩] false [])
     (.keep [0, 5, 33] (.cond (.t 33)
     (.keep [0, 5] (.region [⟨some 34, none, .mov (.t 5)⟩,
      ⟨some 35, none, .mov (.t 0)⟩,
      ⟨some 36, none, .mov (.t 0)⟩,
      ⟨some 37, none, .len false (.t 36)⟩,
      ⟨some 38, none, .bin .sub (.t 37) (.c (.d (.i .i64 8)))⟩,
      ⟨some 39, none, .slc 1 (.t 35) (some (.t 38)) none none⟩,
      ⟨some 40, none, .cpy 1 (.t 34) (.t 39)⟩] false []))
     (.skip))))
    (.keep [5] (.seq
     (.region [⟨some 41, none, .mov (.t 5)⟩,
      ⟨some 4, none, .mov (.t 41)⟩] false [])
     (.ret)))))))))⟩

/-- (*spindle/spindlelaw3.Shelf).Own -/
def F214_spindlelaw3_Shelf_Own : SFn := ⟨2, false, false, [.tmp 4],
  .seq
   (.region [⟨some 4, none, .mov (.c (.d (.b false)))⟩] false [])
   (.keep [0, 1] (.seq
   (.region [⟨some 5, none, .mov (.t 0)⟩,
    ⟨some 6, none, .mov (.t 0)⟩,
    ⟨some 7, none, .nilChk (.t 6)⟩,
    ⟨some 8, none, .faddr 1 (.t 7)⟩,
    ⟨some 9, none, .load 1 false (.t 8)⟩,
    ⟨some 10, none, .mov (.t 1)⟩,
    ⟨some 11, none, .len false (.t 10)⟩,
    ⟨some 12, none, .bin .add (.t 9) (.t 11)⟩,
    ⟨some 13, none, .nilChk (.t 5)⟩,
    ⟨some 14, none, .faddr 1 (.t 13)⟩,
    ⟨none, none, .store 1 (.t 14) (.t 12)⟩] false [])
   (.keep [0, 1] (.seq
    (.region [⟨some 15, none, .mov (.t 0)⟩,
     ⟨some 16, none, .mov (.t 0)⟩,
     ⟨some 17, none, .nilChk (.t 16)⟩,
     ⟨some 18, none, .faddr 3 (.t 17)⟩,
     ⟨some 19, none, .load 1 false (.t 18)⟩,
     ⟨some 20, none, .mov (.t 1)⟩,
     ⟨some 21, none, .litsR 1 [.sl 0 false []] [(0, 1, .t 20)]⟩,
     ⟨some 22, none, .appR 1 24 [.sl 0 false []] (.t 19) (.t 21)⟩,
     ⟨some 23, none, .nilChk (.t 15)⟩,
     ⟨some 24, none, .faddr 3 (.t 23)⟩,
     ⟨none, none, .store 1 (.t 24) (.t 22)⟩] false [])
    (.keep [0, 1] (.seq
    (.region [⟨some 25, none, .mov (.t 0)⟩,
     ⟨some 26, none, .mov (.t 0)⟩,
     ⟨some 27, none, .nilChk (.t 26)⟩,
     ⟨some 28, none, .faddr 4 (.t 27)⟩,
     ⟨some 29, none, .load 1 false (.t 28)⟩,
     ⟨some 30, none, .mov (.t 1)⟩,
     ⟨some 31, none, .call 7 [.t 30]⟩,
     ⟨some 32, none, .lits 1 [.sl 0 false []] [(0, 1, .t 31)]⟩,
     ⟨some 33, none, .appR 1 24 [.sl 0 false []] (.t 29) (.t 32)⟩,
     ⟨some 34, none, .nilChk (.t 25)⟩,
     ⟨some 35, none, .faddr 4 (.t 34)⟩,
     ⟨none, none, .store 1 (.t 35) (.t 33)⟩] true [0, 0, 2, 6, 14, 0, 32, 96, 254, 511, 1023, 2047])
    (.keep [0] (.seq
     (.seq
     (.region [⟨some 36, none, .mov (.t 0)⟩,
      ⟨some 37, none, .nilChk (.t 36)⟩,
      ⟨some 38, none, .faddr 3 (.t 37)⟩,
      ⟨some 39, none, .load 1 false (.t 38)⟩,
      ⟨some 40, none, .len false (.t 39)⟩,
      ⟨some 41, none, .bin .geq (.t 40) (.c (.d (.i .i64 3)))⟩] false [])
     (.keep [0, 41] (.cond (.t 41)
      (.keep [0] (.seq
      (.region [⟨some 42, none, .mov (.t 0)⟩,
       ⟨some 43, none, .call 217 [.t 42]⟩] false [])
      (.keep [0] (.region [⟨some 44, none, .mov (.t 0)⟩,
       ⟨some 45, none, .call 218 [.t 44]⟩] false []))))
      (.skip))))
     (.keep [0] (.seq
     (.region [⟨some 46, none, .mov (.t 0)⟩,
      ⟨some 47, none, .call 219 [.t 46]⟩,
      ⟨some 4, none, .mov (.t 47)⟩] false [])
     (.ret)))))))))))⟩

def F215_spindlelaw3_CodeDecodes_b0 : SCode :=
  .seq
       (.seq
       (.region [⟨some 19, none, .mov (.t 5)⟩,
        ⟨some 20, none, .bin .leq (.t 19) (.c (.d (.i .i64 3)))⟩] false [])
       (.keep [0, 3, 4, 5, 20] (.cond (.t 20)
        (.skip)
        (.exit 0))))
       (.keep [0, 3, 4, 5] (.seq
       (.block 1 (.seq
        (.region [⟨some 23, none, .mov (.t 0)⟩,
         ⟨some 24, none, .mov (.t 5)⟩,
         ⟨some 25, none, .call 212 [.t 23, .t 24]⟩,
         ⟨some 6, none, .mov (.t 25)⟩] false [])
        (.keep [0, 3, 4, 5, 6] (.seq
         (.region [⟨some 27, none, .mov (.t 6)⟩,
          ⟨some 28, none, .call 213 [.t 27]⟩,
          ⟨some 26, none, .mov (.t 28)⟩,
          ⟨some 29, none, .extract 0 (.t 26)⟩,
          ⟨some 30, none, .extract 1 (.t 26)⟩,
          ⟨some 31, none, .extract 2 (.t 26)⟩,
          ⟨some 7, none, .mov (.t 29)⟩,
          ⟨some 8, none, .mov (.t 30)⟩,
          ⟨some 9, none, .mov (.t 31)⟩] false [])
         (.keep [0, 3, 4, 5, 6, 7, 8, 9] (.seq
         (.region [⟨some 32, none, .mov (.t 6)⟩,
          ⟨some 33, none, .call 169 [.t 3, .t 32]⟩,
          ⟨some 10, none, .mov (.t 33)⟩] false [])
         (.keep [0, 3, 4, 5, 6, 7, 8, 9, 10] (.seq
          (.region [⟨some 35, none, .mov (.t 10)⟩,
           ⟨some 36, none, .call 72 [.t 35]⟩,
           ⟨some 34, none, .mov (.t 36)⟩,
           ⟨some 37, none, .extract 0 (.t 34)⟩,
           ⟨some 38, none, .extract 1 (.t 34)⟩,
           ⟨some 39, none, .extract 2 (.t 34)⟩,
           ⟨some 11, none, .mov (.t 37)⟩,
           ⟨some 12, none, .mov (.t 38)⟩,
           ⟨some 13, none, .mov (.t 39)⟩] false [])
          (.keep [0, 3, 4, 5, 6, 7, 8, 9, 10, 11, 12, 13] (.seq
          (.region [⟨some 41, none, .mov (.t 10)⟩,
           ⟨some 42, none, .call 72 [.t 41]⟩,
           ⟨some 40, none, .mov (.t 42)⟩,
           ⟨some 43, none, .extract 0 (.t 40)⟩,
           ⟨some 44, none, .extract 1 (.t 40)⟩,
           ⟨some 45, none, .extract 2 (.t 40)⟩,
           ⟨some 14, none, .mov (.t 43)⟩,
           ⟨some 15, none, .mov (.t 44)⟩,
           ⟨some 16, none, .mov (.t 45)⟩] false [])
          (.keep [0, 3, 4, 5, 6, 7, 8, 9, 11, 12, 13, 14, 15, 16] (.seq
           (.seq
           (.region [⟨some 46, none, .mov (.t 13)⟩,
            ⟨some 47, none, .call 12 [.t 46]⟩,
            ⟨some 48, none, .mov (.t 9)⟩,
            ⟨some 49, none, .bin .neq (.t 47) (.t 48)⟩,
            ⟨some 50, none, .mov (.t 49)⟩,
            ⟨some 51, (some (4, false)), .mov (.t 16)⟩,
            ⟨some 52, (some (4, false)), .call 12 [.t 51]⟩,
            ⟨some 53, (some (4, false)), .mov (.t 9)⟩,
            ⟨some 54, (some (4, false)), .bin .neq (.t 52) (.t 53)⟩,
            ⟨some 55, none, .pick (.t 50) (.c (.d (.b true))) (.t 54)⟩,
            ⟨some 56, none, .mov (.t 55)⟩,
            ⟨some 57, (some (10, false)), .mov (.t 12)⟩,
            ⟨some 58, (some (10, false)), .mov (.t 8)⟩,
            ⟨some 59, (some (10, false)), .bin .neq (.t 57) (.t 58)⟩,
            ⟨some 60, none, .pick (.t 56) (.c (.d (.b true))) (.t 59)⟩,
            ⟨some 61, none, .mov (.t 60)⟩,
            ⟨some 62, (some (15, false)), .mov (.t 15)⟩,
            ⟨some 63, (some (15, false)), .mov (.t 8)⟩,
            ⟨some 64, (some (15, false)), .bin .neq (.t 62) (.t 63)⟩,
            ⟨some 65, none, .pick (.t 61) (.c (.d (.b true))) (.t 64)⟩,
            ⟨some 66, none, .mov (.t 65)⟩,
            ⟨some 67, (some (20, false)), .mov (.t 11)⟩,
            ⟨some 68, (some (20, false)), .mov (.t 7)⟩,
            ⟨some 69, (some (20, false)), .call 9 [.t 67, .t 68]⟩,
            ⟨some 70, (some (20, false)), .un .not (.t 69)⟩,
            ⟨some 71, none, .pick (.t 66) (.c (.d (.b true))) (.t 70)⟩,
            ⟨some 72, none, .mov (.t 71)⟩,
            ⟨some 73, (some (26, false)), .mov (.t 14)⟩,
            ⟨some 74, (some (26, false)), .mov (.t 7)⟩,
            ⟨some 75, (some (26, false)), .call 9 [.t 73, .t 74]⟩,
            ⟨some 76, (some (26, false)), .un .not (.t 75)⟩,
            ⟨some 77, none, .pick (.t 72) (.c (.d (.b true))) (.t 76)⟩,
            ⟨some 78, none, .mov (.t 77)⟩,
            ⟨some 79, (some (32, false)), .mov (.t 6)⟩,
            ⟨some 80, (some (32, false)), .call 170 [.t 3, .t 79]⟩,
            ⟨some 81, (some (32, false)), .un .not (.t 80)⟩,
            ⟨some 82, none, .pick (.t 78) (.c (.d (.b true))) (.t 81)⟩] false [])
           (.keep [0, 3, 4, 5, 11, 14, 82] (.cond (.t 82)
            (.keep [] (.seq
            (.region [⟨some 2, none, .mov (.c (.d (.b false)))⟩] false [])
            (.ret)))
            (.skip))))
           (.keep [0, 3, 4, 5, 11, 14] (.seq
           (.region [⟨some 83, none, .mov (.t 11)⟩,
            ⟨some 84, none, .call 214 [.t 4, .t 83]⟩,
            ⟨some 85, none, .un .not (.t 84)⟩,
            ⟨some 86, none, .mov (.t 85)⟩,
            ⟨some 87, (some (3, false)), .mov (.t 14)⟩,
            ⟨some 88, (some (3, false)), .call 214 [.t 4, .t 87]⟩,
            ⟨some 89, (some (3, false)), .un .not (.t 88)⟩,
            ⟨some 90, none, .pick (.t 86) (.c (.d (.b true))) (.t 89)⟩] false [])
           (.keep [0, 3, 4, 5, 90] (.cond (.t 90)
            (.keep [] (.seq
            (.region [⟨some 2, none, .mov (.c (.d (.b false)))⟩] false [])
            (.ret)))
            (.skip)))))))))))))))))
       (.keep [0, 3, 4, 5] (.region [⟨some 21, none, .mov (.t 5)⟩,
        ⟨some 22, none, .bin .add (.t 21) (.c (.d (.i .i64 1)))⟩,
        ⟨some 5, none, .mov (.t 22)⟩] false []))))
/-- spindle/spindlelaw3.CodeDecodes -/
def F215_spindlelaw3_CodeDecodes : SFn := ⟨1, true, true, [.tmp 2],
  .seq
   (.region [⟨some 2, none, .mov (.c (.d (.b false)))⟩] false [])
   (.keep [0] (.seq
   (.seq
    (.region [⟨some 17, none, .call 69 []⟩,
     ⟨some 18, none, .un .not (.t 17)⟩] false [])
    (.keep [0, 18] (.cond (.t 18)
    (.keep [] (.seq
     (.region [⟨some 2, none, .mov (.c (.d (.b false)))⟩] false [])
     (.ret)))
    (.skip))))
   (.keep [0] (.seq
    (.region [⟨some 3, none, .alloc [.sl 0 false [], .i .i64 0]⟩] false [])
    (.keep [0, 3] (.seq
    (.region [⟨some 4, none, .alloc [.i .i64 0, .i .i64 0, .b false, .sl 0 false [], .sl 0 false [], .sl 0 false [], .sl 0 false []]⟩] false [])
    (.keep [0, 3, 4] (.seq
     (.seq
     (.region [⟨some 5, none, .mov (.c (.d (.i .i64 0)))⟩] false [])
     (.keep [0, 3, 4, 5] (.block 0 (.loop [0, 3, 4, 5] false F215_spindlelaw3_CodeDecodes_b0))))
     (.keep [] (.seq
     (.region [⟨some 2, none, .mov (.c (.d (.b true)))⟩] false [])
     (.ret)))))))))))⟩

def F217_spindlelaw3_Shelf_untouched_b0 : SCode :=
  .seq
    (.seq
     (.region [⟨some 3, none, .mov (.t 2)⟩,
      ⟨some 4, none, .mov (.t 0)⟩,
      ⟨some 5, none, .nilChk (.t 4)⟩,
      ⟨some 6, none, .faddr 3 (.t 5)⟩,
      ⟨some 7, none, .load 1 false (.t 6)⟩,
      ⟨some 8, none, .len false (.t 7)⟩,
      ⟨some 9, none, .bin .lss (.t 3) (.t 8)⟩] false [])
     (.keep [0, 2, 9] (.cond (.t 9)
     (.skip)
     (.exit 0))))
    (.keep [0, 2] (.seq
     (.block 1 (.region [⟨some 12, none, .mov (.t 0)⟩,
      ⟨some 13, none, .mov (.t 0)⟩,
      ⟨some 14, none, .nilChk (.t 13)⟩,
      ⟨some 15, none, .faddr 2 (.t 14)⟩,
      ⟨some 16, none, .load 1 false (.t 15)⟩,
      ⟨some 17, none, .mov (.t 16)⟩,
      ⟨some 18, (some (5, false)), .mov (.t 0)⟩,
      ⟨some 19, (some (5, false)), .nilChk (.t 18)⟩,
      ⟨some 20, (some (5, false)), .faddr 3 (.t 19)⟩,
      ⟨some 21, (some (5, false)), .load 1 false (.t 20)⟩,
      ⟨some 22, (some (5, false)), .mov (.t 2)⟩,
      ⟨some 23, (some (5, false)), .iaddr 1 (.t 21) (.t 22)⟩,
      ⟨some 24, (some (5, false)), .load 1 false (.t 23)⟩,
      ⟨some 25, (some (5, false)), .mov (.t 0)⟩,
      ⟨some 26, (some (5, false)), .nilChk (.t 25)⟩,
      ⟨some 27, (some (5, false)), .faddr 4 (.t 26)⟩,
      ⟨some 28, (some (5, false)), .load 1 false (.t 27)⟩,
      ⟨some 29, (some (5, false)), .mov (.t 2)⟩,
      ⟨some 30, (some (5, false)), .iaddr 1 (.t 28) (.t 29)⟩,
      ⟨some 31, (some (5, false)), .load 1 false (.t 30)⟩,
      ⟨some 32, (some (5, false)), .call 9 [.t 24, .t 31]⟩,
      ⟨some 33, (some (5, false)), .un .not (.t 32)⟩,
      ⟨some 34, none, .pick (.t 17) (.c (.d (.b true))) (.t 33)⟩,
      ⟨some 35, none, .nilChk (.t 12)⟩,
      ⟨some 36, none, .faddr 2 (.t 35)⟩,
      ⟨none, none, .store 1 (.t 36) (.t 34)⟩] true [0, 0, 2, 6, 14, 30, 62, 126, 254, 510, 62, 2046, 4094, 62, 8254, 24638, 57406, 62, 254014, 516158, 1048574, 2097150, 4194302, 8388607, 16777215, 33554431]))
     (.keep [0, 2] (.region [⟨some 10, none, .mov (.t 2)⟩,
      ⟨some 11, none, .bin .add (.t 10) (.c (.d (.i .i64 1)))⟩,
      ⟨some 2, none, .mov (.t 11)⟩] false []))))
/-- (*spindle/spindlelaw3.Shelf).untouched -/
def F217_spindlelaw3_Shelf_untouched : SFn := ⟨1, false, false, [],
  .seq
   (.region [⟨some 2, none, .mov (.c (.d (.i .i64 0)))⟩] false [])
   (.keep [0, 2] (.block 0 (.loop [0, 2] false F217_spindlelaw3_Shelf_untouched_b0)))⟩

def F218_spindlelaw3_Shelf_write_b0 : SCode :=
  .seq
      (.seq
       (.region [⟨some 24, none, .mov (.t 3)⟩,
        ⟨some 25, none, .mov (.t 2)⟩,
        ⟨some 26, none, .len false (.t 25)⟩,
        ⟨some 27, none, .bin .lss (.t 24) (.t 26)⟩] false [])
       (.keep [0, 2, 3, 27] (.cond (.t 27)
       (.skip)
       (.exit 0))))
      (.keep [0, 2, 3] (.seq
       (.block 1 (.seq
        (.region [⟨some 30, none, .mov (.t 0)⟩,
         ⟨some 31, none, .mov (.t 2)⟩,
         ⟨some 32, none, .mov (.t 3)⟩,
         ⟨some 33, none, .iaddr 1 (.t 31) (.t 32)⟩,
         ⟨some 34, none, .load 1 false (.t 33)⟩,
         ⟨some 35, none, .len false (.t 34)⟩,
         ⟨some 36, none, .call 221 [.t 30, .t 35]⟩,
         ⟨some 4, none, .mov (.t 36)⟩] false [])
        (.keep [0, 2, 3, 4] (.seq
        (.region [⟨some 37, none, .mov (.t 2)⟩,
         ⟨some 38, none, .mov (.t 3)⟩,
         ⟨some 39, none, .iaddr 1 (.t 37) (.t 38)⟩,
         ⟨some 40, none, .load 1 false (.t 39)⟩,
         ⟨some 41, none, .mov (.t 4)⟩,
         ⟨some 42, none, .cpy 5 (.t 40) (.t 41)⟩] false [])
        (.keep [0, 2, 3, 4] (.region [⟨some 43, none, .mov (.t 0)⟩,
         ⟨some 44, none, .mov (.t 2)⟩,
         ⟨some 45, none, .mov (.t 3)⟩,
         ⟨some 46, none, .iaddr 1 (.t 44) (.t 45)⟩,
         ⟨some 47, none, .load 1 false (.t 46)⟩,
         ⟨some 48, none, .mov (.t 4)⟩,
         ⟨some 49, none, .call 222 [.t 43, .t 47, .t 48]⟩] false []))))))
       (.keep [0, 2, 3] (.region [⟨some 28, none, .mov (.t 3)⟩,
        ⟨some 29, none, .bin .add (.t 28) (.c (.d (.i .i64 1)))⟩,
        ⟨some 3, none, .mov (.t 29)⟩] false []))))
def F218_spindlelaw3_Shelf_write_b2 : SCode :=
  .seq
            (.seq
            (.region [⟨some 67, none, .mov (.t 9)⟩,
             ⟨some 68, none, .mov (.t 7)⟩,
             ⟨some 69, none, .len false (.t 68)⟩,
             ⟨some 70, none, .bin .lss (.t 67) (.t 69)⟩] false [])
            (.keep [0, 2, 5, 6, 7, 8, 9, 70] (.cond (.t 70)
             (.skip)
             (.exit 4))))
            (.keep [0, 2, 5, 6, 7, 8, 9] (.seq
            (.block 5 (.region [⟨some 73, none, .mov (.t 8)⟩,
              ⟨some 74, none, .mov (.t 7)⟩,
              ⟨some 75, none, .mov (.t 9)⟩,
              ⟨some 76, none, .iaddr 5 (.t 74) (.t 75)⟩,
              ⟨some 77, none, .load 5 true (.t 76)⟩,
              ⟨some 78, none, .litsR 1 [.i .i64 0, .i .i64 0, .i .i64 0, .i .i64 0, .i .i64 0] [(0, 5, .t 77)]⟩,
              ⟨some 79, none, .appR 5 40 [.i .i64 0, .i .i64 0, .i .i64 0, .i .i64 0, .i .i64 0] (.t 73) (.t 78)⟩,
              ⟨some 8, none, .mov (.t 79)⟩] false []))
            (.keep [0, 2, 5, 6, 7, 8, 9] (.region [⟨some 71, none, .mov (.t 9)⟩,
             ⟨some 72, none, .bin .add (.t 71) (.c (.d (.i .i64 1)))⟩,
             ⟨some 9, none, .mov (.t 72)⟩] false []))))
def F218_spindlelaw3_Shelf_write_b1 : SCode :=
  .seq
       (.seq
        (.region [⟨some 55, none, .mov (.t 6)⟩,
         ⟨some 56, none, .mov (.t 2)⟩,
         ⟨some 57, none, .len false (.t 56)⟩,
         ⟨some 58, none, .bin .lss (.t 55) (.t 57)⟩] false [])
        (.keep [0, 2, 5, 6, 58] (.cond (.t 58)
        (.skip)
        (.exit 2))))
       (.keep [0, 2, 5, 6] (.seq
        (.block 3 (.seq
         (.region [⟨some 61, none, .mov (.t 0)⟩,
          ⟨some 62, none, .call 221 [.t 61, .c (.d (.i .i64 16))]⟩,
          ⟨some 7, none, .mov (.t 62)⟩] false [])
         (.keep [0, 2, 5, 6, 7] (.seq
         (.region [⟨some 63, none, .mov (.t 2)⟩,
          ⟨some 64, none, .mov (.t 6)⟩,
          ⟨some 65, none, .iaddr 1 (.t 63) (.t 64)⟩,
          ⟨some 66, none, .load 1 false (.t 65)⟩,
          ⟨some 8, none, .mov (.t 66)⟩] false [])
         (.keep [0, 2, 5, 6, 7, 8] (.seq
          (.seq
          (.region [⟨some 9, none, .mov (.c (.d (.i .i64 0)))⟩] false [])
          (.keep [0, 2, 5, 6, 7, 8, 9] (.block 4 (.loop [0, 2, 5, 6, 7, 8, 9] false F218_spindlelaw3_Shelf_write_b2))))
          (.keep [0, 2, 5, 6, 7, 8] (.region [⟨some 80, none, .mov (.t 0)⟩,
           ⟨some 81, none, .mov (.t 8)⟩,
           ⟨some 82, none, .mov (.t 0)⟩,
           ⟨some 83, none, .nilChk (.t 82)⟩,
           ⟨some 84, none, .faddr 6 (.t 83)⟩,
           ⟨some 85, none, .load 1 false (.t 84)⟩,
           ⟨some 86, none, .mov (.t 5)⟩,
           ⟨some 87, none, .mov (.t 2)⟩,
           ⟨some 88, none, .len false (.t 87)⟩,
           ⟨some 89, none, .bin .sub (.t 86) (.t 88)⟩,
           ⟨some 90, none, .mov (.t 6)⟩,
           ⟨some 91, none, .bin .add (.t 89) (.t 90)⟩,
           ⟨some 92, none, .iaddr 1 (.t 85) (.t 91)⟩,
           ⟨some 93, none, .load 1 false (.t 92)⟩,
           ⟨some 94, none, .call 224 [.t 93]⟩,
           ⟨some 95, none, .mov (.t 7)⟩,
           ⟨some 96, none, .appR 5 40 [.i .i64 0, .i .i64 0, .i .i64 0, .i .i64 0, .i .i64 0] (.t 94) (.t 95)⟩,
           ⟨some 97, none, .call 222 [.t 80, .t 81, .t 96]⟩] false []))))))))
        (.keep [0, 2, 5, 6] (.region [⟨some 59, none, .mov (.t 6)⟩,
         ⟨some 60, none, .bin .add (.t 59) (.c (.d (.i .i64 1)))⟩,
         ⟨some 6, none, .mov (.t 60)⟩] false []))))
def F218_spindlelaw3_Shelf_write_b4 : SCode :=
  .seq
             (.seq
              (.region [⟨some 135, none, .mov (.t 13)⟩,
               ⟨some 136, none, .mov (.t 11)⟩,
               ⟨some 137, none, .len false (.t 136)⟩,
               ⟨some 138, none, .bin .lss (.t 135) (.t 137)⟩] false [])
              (.keep [0, 2, 5, 10, 11, 12, 13, 138] (.cond (.t 138)
              (.skip)
              (.exit 8))))
             (.keep [0, 2, 5, 10, 11, 12, 13] (.seq
              (.block 9 (.region [⟨some 141, none, .mov (.t 12)⟩,
               ⟨some 142, none, .mov (.t 11)⟩,
               ⟨some 143, none, .mov (.t 13)⟩,
               ⟨some 144, none, .iaddr 5 (.t 142) (.t 143)⟩,
               ⟨some 145, none, .load 5 true (.t 144)⟩,
               ⟨some 146, none, .litsR 1 [.i .i64 0, .i .i64 0, .i .i64 0, .i .i64 0, .i .i64 0] [(0, 5, .t 145)]⟩,
               ⟨some 147, none, .appR 5 40 [.i .i64 0, .i .i64 0, .i .i64 0, .i .i64 0, .i .i64 0] (.t 141) (.t 146)⟩,
               ⟨some 12, none, .mov (.t 147)⟩] false []))
              (.keep [0, 2, 5, 10, 11, 12, 13] (.region [⟨some 139, none, .mov (.t 13)⟩,
               ⟨some 140, none, .bin .add (.t 139) (.c (.d (.i .i64 1)))⟩,
               ⟨some 13, none, .mov (.t 140)⟩] false []))))
def F218_spindlelaw3_Shelf_write_b3 : SCode :=
  .seq
         (.seq
         (.region [⟨some 118, none, .mov (.t 10)⟩,
          ⟨some 119, none, .mov (.t 2)⟩,
          ⟨some 120, none, .len false (.t 119)⟩,
          ⟨some 121, none, .bin .lss (.t 118) (.t 120)⟩] false [])
         (.keep [0, 2, 5, 10, 121] (.cond (.t 121)
          (.skip)
          (.exit 6))))
         (.keep [0, 2, 5, 10] (.seq
         (.block 7 (.seq
          (.region [⟨some 124, none, .mov (.t 0)⟩,
           ⟨some 125, none, .mov (.t 0)⟩,
           ⟨some 126, none, .nilChk (.t 125)⟩,
           ⟨some 127, none, .faddr 1 (.t 126)⟩,
           ⟨some 128, none, .load 1 false (.t 127)⟩,
           ⟨some 129, none, .bin .add (.t 128) (.c (.d (.i .i64 70)))⟩,
           ⟨some 130, none, .call 221 [.t 124, .t 129]⟩,
           ⟨some 11, none, .mov (.t 130)⟩] false [])
          (.keep [0, 2, 5, 10, 11] (.seq
           (.region [⟨some 131, none, .mov (.t 2)⟩,
            ⟨some 132, none, .mov (.t 10)⟩,
            ⟨some 133, none, .iaddr 1 (.t 131) (.t 132)⟩,
            ⟨some 134, none, .load 1 false (.t 133)⟩,
            ⟨some 12, none, .mov (.t 134)⟩] false [])
           (.keep [0, 2, 5, 10, 11, 12] (.seq
           (.seq
            (.region [⟨some 13, none, .mov (.c (.d (.i .i64 0)))⟩] false [])
            (.keep [0, 2, 5, 10, 11, 12, 13] (.block 8 (.loop [0, 2, 5, 10, 11, 12, 13] false F218_spindlelaw3_Shelf_write_b4))))
           (.keep [0, 2, 5, 10, 11, 12] (.region [⟨some 148, none, .mov (.t 0)⟩,
            ⟨some 149, none, .mov (.t 12)⟩,
            ⟨some 150, none, .mov (.t 0)⟩,
            ⟨some 151, none, .nilChk (.t 150)⟩,
            ⟨some 152, none, .faddr 6 (.t 151)⟩,
            ⟨some 153, none, .load 1 false (.t 152)⟩,
            ⟨some 154, none, .mov (.t 5)⟩,
            ⟨some 155, none, .mov (.t 2)⟩,
            ⟨some 156, none, .len false (.t 155)⟩,
            ⟨some 157, none, .bin .sub (.t 154) (.t 156)⟩,
            ⟨some 158, none, .mov (.t 10)⟩,
            ⟨some 159, none, .bin .add (.t 157) (.t 158)⟩,
            ⟨some 160, none, .iaddr 1 (.t 153) (.t 159)⟩,
            ⟨some 161, none, .load 1 false (.t 160)⟩,
            ⟨some 162, none, .call 224 [.t 161]⟩,
            ⟨some 163, none, .mov (.t 11)⟩,
            ⟨some 164, none, .appR 5 40 [.i .i64 0, .i .i64 0, .i .i64 0, .i .i64 0, .i .i64 0] (.t 162) (.t 163)⟩,
            ⟨some 165, none, .call 222 [.t 148, .t 149, .t 164]⟩] false []))))))))
         (.keep [0, 2, 5, 10] (.region [⟨some 122, none, .mov (.t 10)⟩,
          ⟨some 123, none, .bin .add (.t 122) (.c (.d (.i .i64 1)))⟩,
          ⟨some 10, none, .mov (.t 123)⟩] false []))))
/-- (*spindle/spindlelaw3.Shelf).write -/
def F218_spindlelaw3_Shelf_write : SFn := ⟨1, false, false, [],
  .seq
   (.region [⟨some 14, none, .mov (.t 0)⟩,
    ⟨some 15, none, .nilChk (.t 14)⟩,
    ⟨some 16, none, .faddr 3 (.t 15)⟩,
    ⟨some 17, none, .load 1 false (.t 16)⟩,
    ⟨some 2, none, .mov (.t 17)⟩] false [])
   (.keep [0, 2] (.seq
   (.region [⟨some 18, none, .mov (.t 0)⟩,
    ⟨some 19, none, .nilChk (.t 18)⟩,
    ⟨some 20, none, .faddr 3 (.t 19)⟩,
    ⟨none, none, .store 1 (.t 20) (.c (.d (.sl 0 false [])))⟩] false [])
   (.keep [0, 2] (.seq
    (.region [⟨some 21, none, .mov (.t 0)⟩,
     ⟨some 22, none, .nilChk (.t 21)⟩,
     ⟨some 23, none, .faddr 4 (.t 22)⟩,
     ⟨none, none, .store 1 (.t 23) (.c (.d (.sl 0 false [])))⟩] false [])
    (.keep [0, 2] (.seq
    (.seq
     (.region [⟨some 3, none, .mov (.c (.d (.i .i64 0)))⟩] false [])
     (.keep [0, 2, 3] (.block 0 (.loop [0, 2, 3] false F218_spindlelaw3_Shelf_write_b0))))
    (.keep [0, 2] (.seq
     (.region [⟨some 50, none, .mov (.t 0)⟩,
      ⟨some 51, none, .nilChk (.t 50)⟩,
      ⟨some 52, none, .faddr 5 (.t 51)⟩,
      ⟨some 53, none, .load 1 false (.t 52)⟩,
      ⟨some 54, none, .len false (.t 53)⟩,
      ⟨some 5, none, .mov (.t 54)⟩] false [])
     (.keep [0, 2, 5] (.seq
     (.seq
      (.region [⟨some 6, none, .mov (.c (.d (.i .i64 0)))⟩] false [])
      (.keep [0, 2, 5, 6] (.block 2 (.loop [0, 2, 5, 6] false F218_spindlelaw3_Shelf_write_b1))))
     (.keep [0, 2, 5] (.seq
      (.region [⟨some 98, none, .mov (.t 0)⟩,
       ⟨some 99, none, .call 223 [.t 98]⟩] false [])
      (.keep [0, 2, 5] (.seq
      (.region [⟨some 100, none, .mov (.t 0)⟩,
       ⟨some 101, none, .mov (.t 0)⟩,
       ⟨some 102, none, .nilChk (.t 101)⟩,
       ⟨some 103, none, .faddr 5 (.t 102)⟩,
       ⟨some 104, none, .load 1 false (.t 103)⟩,
       ⟨some 105, none, .mov (.t 5)⟩,
       ⟨some 106, none, .slc 1 (.t 104) none (some (.t 105)) none⟩,
       ⟨some 107, none, .nilChk (.t 100)⟩,
       ⟨some 108, none, .faddr 5 (.t 107)⟩,
       ⟨none, none, .store 1 (.t 108) (.t 106)⟩] false [])
      (.keep [0, 2, 5] (.seq
       (.region [⟨some 109, none, .mov (.t 0)⟩,
        ⟨some 110, none, .mov (.t 0)⟩,
        ⟨some 111, none, .nilChk (.t 110)⟩,
        ⟨some 112, none, .faddr 6 (.t 111)⟩,
        ⟨some 113, none, .load 1 false (.t 112)⟩,
        ⟨some 114, none, .mov (.t 5)⟩,
        ⟨some 115, none, .slc 1 (.t 113) none (some (.t 114)) none⟩,
        ⟨some 116, none, .nilChk (.t 109)⟩,
        ⟨some 117, none, .faddr 6 (.t 116)⟩,
        ⟨none, none, .store 1 (.t 117) (.t 115)⟩] false [])
       (.keep [0, 2, 5] (.seq
       (.region [⟨some 10, none, .mov (.c (.d (.i .i64 0)))⟩] false [])
       (.keep [0, 2, 5, 10] (.block 6 (.loop [0, 2, 5, 10] false F218_spindlelaw3_Shelf_write_b3)))))))))))))))))))))⟩

/-- (*spindle/spindlelaw3.Shelf).Holds -/
def F219_spindlelaw3_Shelf_Holds : SFn := ⟨1, false, false, [.tmp 2],
  .seq
   (.region [⟨some 2, none, .mov (.c (.d (.b false)))⟩] false [])
   (.keep [0] (.seq
   (.region [⟨some 3, none, .mov (.t 0)⟩,
    ⟨some 4, none, .call 217 [.t 3]⟩] false [])
   (.keep [0] (.seq
    (.region [⟨some 5, none, .mov (.t 0)⟩,
     ⟨some 6, none, .call 223 [.t 5]⟩] false [])
    (.keep [0] (.seq
    (.region [⟨some 7, none, .mov (.t 0)⟩,
     ⟨some 8, none, .nilChk (.t 7)⟩,
     ⟨some 9, none, .faddr 2 (.t 8)⟩,
     ⟨some 10, none, .load 1 false (.t 9)⟩,
     ⟨some 11, none, .un .not (.t 10)⟩,
     ⟨some 2, none, .mov (.t 11)⟩] false [])
    (.ret)))))))⟩

def F221_spindlelaw3_Shelf_some_b0 : SCode :=
  .seq
      (.seq
      (.region [⟨some 9, none, .mov (.t 6)⟩,
       ⟨some 10, none, .mov (.t 1)⟩,
       ⟨some 11, none, .bin .lss (.t 9) (.t 10)⟩] false [])
      (.keep [0, 1, 5, 6, 11] (.cond (.t 11)
       (.skip)
       (.exit 0))))
      (.keep [0, 1, 5, 6] (.seq
      (.block 1 (.seq
       (.region [⟨some 14, none, .mov (.t 0)⟩,
        ⟨some 15, none, .nilChk (.t 14)⟩,
        ⟨some 16, none, .faddr 0 (.t 15)⟩,
        ⟨some 17, none, .load 1 false (.t 16)⟩,
        ⟨some 18, none, .bin .add (.t 17) (.c (.d (.i .i64 1)))⟩,
        ⟨some 19, none, .nilChk (.t 14)⟩,
        ⟨some 20, none, .faddr 0 (.t 19)⟩,
        ⟨none, none, .store 1 (.t 20) (.t 18)⟩] false [])
       (.keep [0, 1, 5, 6] (.region [⟨some 21, none, .mov (.t 5)⟩,
        ⟨some 22, none, .mov (.t 6)⟩,
        ⟨some 23, none, .mov (.t 0)⟩,
        ⟨some 24, none, .nilChk (.t 23)⟩,
        ⟨some 25, none, .faddr 0 (.t 24)⟩,
        ⟨some 26, none, .load 1 false (.t 25)⟩,
        ⟨some 27, none, .un .neg (.t 26)⟩,
        ⟨some 28, none, .build [.i .i64 0, .i .i64 0, .i .i64 0, .i .i64 0, .i .i64 0] [(0, 1, .t 27)]⟩,
        ⟨some 29, none, .iaddr 5 (.t 21) (.t 22)⟩,
        ⟨none, none, .store 5 (.t 29) (.t 28)⟩] false []))))
      (.keep [0, 1, 5, 6] (.region [⟨some 12, none, .mov (.t 6)⟩,
       ⟨some 13, none, .bin .add (.t 12) (.c (.d (.i .i64 1)))⟩,
       ⟨some 6, none, .mov (.t 13)⟩] false []))))
/-- (*spindle/spindlelaw3.Shelf).some -/
def F221_spindlelaw3_Shelf_some : SFn := ⟨2, false, false, [.tmp 4],
  .seq
   (.region [⟨some 4, none, .mov (.c (.d (.sl 0 false [])))⟩] false [])
   (.keep [0, 1] (.seq
   (.region [⟨some 7, none, .mov (.t 1)⟩,
    ⟨some 8, none, .mkR 40 [.i .i64 0, .i .i64 0, .i .i64 0, .i .i64 0, .i .i64 0] (.t 7) (.t 7)⟩,
    ⟨some 5, none, .mov (.t 8)⟩] false [])
   (.keep [0, 1, 5] (.seq
    (.seq
    (.region [⟨some 6, none, .mov (.c (.d (.i .i64 0)))⟩] false [])
    (.keep [0, 1, 5, 6] (.block 0 (.loop [0, 1, 5, 6] false F221_spindlelaw3_Shelf_some_b0))))
    (.keep [5] (.seq
    (.region [⟨some 30, none, .mov (.t 5)⟩,
     ⟨some 4, none, .mov (.t 30)⟩] false [])
    (.ret)))))))⟩

/-- (*spindle/spindlelaw3.Shelf).keep -/
def F222_spindlelaw3_Shelf_keep : SFn := ⟨3, false, false, [],
  .seq
   (.region [⟨some 6, none, .mov (.t 0)⟩,
    ⟨some 7, none, .mov (.t 0)⟩,
    ⟨some 8, none, .nilChk (.t 7)⟩,
    ⟨some 9, none, .faddr 5 (.t 8)⟩,
    ⟨some 10, none, .load 1 false (.t 9)⟩,
    ⟨some 11, none, .mov (.t 1)⟩,
    ⟨some 12, none, .litsR 1 [.sl 0 false []] [(0, 1, .t 11)]⟩,
    ⟨some 13, none, .appR 1 24 [.sl 0 false []] (.t 10) (.t 12)⟩,
    ⟨some 14, none, .nilChk (.t 6)⟩,
    ⟨some 15, none, .faddr 5 (.t 14)⟩,
    ⟨none, none, .store 1 (.t 15) (.t 13)⟩] false [])
   (.keep [0, 2] (.region [⟨some 16, none, .mov (.t 0)⟩,
    ⟨some 17, none, .mov (.t 0)⟩,
    ⟨some 18, none, .nilChk (.t 17)⟩,
    ⟨some 19, none, .faddr 6 (.t 18)⟩,
    ⟨some 20, none, .load 1 false (.t 19)⟩,
    ⟨some 21, none, .mov (.t 2)⟩,
    ⟨some 22, none, .litsR 1 [.sl 0 false []] [(0, 1, .t 21)]⟩,
    ⟨some 23, none, .appR 1 24 [.sl 0 false []] (.t 20) (.t 22)⟩,
    ⟨some 24, none, .nilChk (.t 16)⟩,
    ⟨some 25, none, .faddr 6 (.t 24)⟩,
    ⟨none, none, .store 1 (.t 25) (.t 23)⟩] false []))⟩

def F223_spindlelaw3_Shelf_kept_b0 : SCode :=
  .seq
    (.seq
     (.region [⟨some 3, none, .mov (.t 2)⟩,
      ⟨some 4, none, .mov (.t 0)⟩,
      ⟨some 5, none, .nilChk (.t 4)⟩,
      ⟨some 6, none, .faddr 5 (.t 5)⟩,
      ⟨some 7, none, .load 1 false (.t 6)⟩,
      ⟨some 8, none, .len false (.t 7)⟩,
      ⟨some 9, none, .bin .lss (.t 3) (.t 8)⟩] false [])
     (.keep [0, 2, 9] (.cond (.t 9)
     (.skip)
     (.exit 0))))
    (.keep [0, 2] (.seq
     (.block 1 (.region [⟨some 12, none, .mov (.t 0)⟩,
      ⟨some 13, none, .mov (.t 0)⟩,
      ⟨some 14, none, .nilChk (.t 13)⟩,
      ⟨some 15, none, .faddr 2 (.t 14)⟩,
      ⟨some 16, none, .load 1 false (.t 15)⟩,
      ⟨some 17, none, .mov (.t 16)⟩,
      ⟨some 18, (some (5, false)), .mov (.t 0)⟩,
      ⟨some 19, (some (5, false)), .nilChk (.t 18)⟩,
      ⟨some 20, (some (5, false)), .faddr 5 (.t 19)⟩,
      ⟨some 21, (some (5, false)), .load 1 false (.t 20)⟩,
      ⟨some 22, (some (5, false)), .mov (.t 2)⟩,
      ⟨some 23, (some (5, false)), .iaddr 1 (.t 21) (.t 22)⟩,
      ⟨some 24, (some (5, false)), .load 1 false (.t 23)⟩,
      ⟨some 25, (some (5, false)), .mov (.t 0)⟩,
      ⟨some 26, (some (5, false)), .nilChk (.t 25)⟩,
      ⟨some 27, (some (5, false)), .faddr 6 (.t 26)⟩,
      ⟨some 28, (some (5, false)), .load 1 false (.t 27)⟩,
      ⟨some 29, (some (5, false)), .mov (.t 2)⟩,
      ⟨some 30, (some (5, false)), .iaddr 1 (.t 28) (.t 29)⟩,
      ⟨some 31, (some (5, false)), .load 1 false (.t 30)⟩,
      ⟨some 32, (some (5, false)), .call 9 [.t 24, .t 31]⟩,
      ⟨some 33, (some (5, false)), .un .not (.t 32)⟩,
      ⟨some 34, none, .pick (.t 17) (.c (.d (.b true))) (.t 33)⟩,
      ⟨some 35, none, .nilChk (.t 12)⟩,
      ⟨some 36, none, .faddr 2 (.t 35)⟩,
      ⟨none, none, .store 1 (.t 36) (.t 34)⟩] true [0, 0, 2, 6, 14, 30, 62, 126, 254, 510, 62, 2046, 4094, 62, 8254, 24638, 57406, 62, 254014, 516158, 1048574, 2097150, 4194302, 8388607, 16777215, 33554431]))
     (.keep [0, 2] (.region [⟨some 10, none, .mov (.t 2)⟩,
      ⟨some 11, none, .bin .add (.t 10) (.c (.d (.i .i64 1)))⟩,
      ⟨some 2, none, .mov (.t 11)⟩] false []))))
/-- (*spindle/spindlelaw3.Shelf).kept -/
def F223_spindlelaw3_Shelf_kept : SFn := ⟨1, false, false, [],
  .seq
   (.region [⟨some 2, none, .mov (.c (.d (.i .i64 0)))⟩] false [])
   (.keep [0, 2] (.block 0 (.loop [0, 2] false F223_spindlelaw3_Shelf_kept_b0)))⟩
end Go.Sh
