/- Shadow functions of law9, written by tr.py. -/
import Derived.Test.YtpgipjjhapapjaaShBa
namespace Go.Sh
/-- spindle/spindlelaw9.awake -/
def F175_spindlelaw9_awake : SFn := ⟨0, true, true, [.tmp 0],
  .seq
   (.region [⟨some 0, none, .mov (.c (.d (.b false)))⟩] false [])
   (.keep [] (.seq
   (.region [⟨some 7, none, .lits 3 [.i .u8 0] [(0, 1, .c (.d (.i .u8 1))), (1, 1, .c (.d (.i .u8 2))), (2, 1, .c (.d (.i .u8 3)))]⟩,
    ⟨some 8, none, .call 178 [.t 7]⟩,
    ⟨some 6, none, .mov (.t 8)⟩,
    ⟨some 9, none, .extract 0 (.t 6)⟩,
    ⟨some 10, none, .extract 1 (.t 6)⟩,
    ⟨some 11, none, .extract 2 (.t 6)⟩,
    ⟨some 1, none, .mov (.t 9)⟩,
    ⟨some 2, none, .mov (.t 10)⟩,
    ⟨some 3, none, .mov (.t 11)⟩] false [])
   (.keep [1, 2, 3] (.seq
    (.seq
    (.region [⟨some 12, none, .mov (.t 3)⟩,
     ⟨some 13, none, .call 12 [.t 12]⟩,
     ⟨some 14, none, .bin .neq (.t 13) (.c (.d (.i .i64 90)))⟩,
     ⟨some 15, none, .mov (.t 14)⟩,
     ⟨some 16, (some (3, false)), .mov (.t 2)⟩,
     ⟨some 17, (some (3, false)), .bin .neq (.t 16) (.c (.d (.i .i64 3)))⟩,
     ⟨some 18, none, .pick (.t 15) (.c (.d (.b true))) (.t 17)⟩,
     ⟨some 19, none, .mov (.t 18)⟩,
     ⟨some 20, (some (7, false)), .mov (.t 1)⟩,
     ⟨some 21, (some (7, false)), .len false (.t 20)⟩,
     ⟨some 22, (some (7, false)), .bin .neq (.t 21) (.c (.d (.i .i64 0)))⟩,
     ⟨some 23, none, .pick (.t 19) (.c (.d (.b true))) (.t 22)⟩] false [])
    (.keep [23] (.cond (.t 23)
     (.keep [] (.seq
     (.region [⟨some 0, none, .mov (.c (.d (.b false)))⟩] false [])
     (.ret)))
     (.skip))))
    (.keep [] (.seq
    (.region [⟨some 25, none, .lits 3 [.i .u8 0] [(0, 1, .c (.d (.i .u8 1))), (1, 1, .c (.d (.i .u8 2))), (2, 1, .c (.d (.i .u8 3)))]⟩,
     ⟨some 26, none, .call 184 [.c (.d (.s [46, 116, 101, 120, 116])), .t 25]⟩,
     ⟨some 27, none, .lits 1 [.s [], .i .i64 0, .i .i64 0, .i .i64 0, .i .i64 0, .i .i64 0, .i .i64 0, .sl 0 false []] [(0, 8, .t 26)]⟩,
     ⟨some 28, none, .call 177 [.t 27]⟩,
     ⟨some 24, none, .mov (.t 28)⟩,
     ⟨some 29, none, .extract 0 (.t 24)⟩,
     ⟨some 30, none, .extract 1 (.t 24)⟩,
     ⟨some 4, none, .mov (.t 29)⟩,
     ⟨some 5, none, .mov (.t 30)⟩] false [])
    (.keep [4, 5] (.seq
     (.seq
     (.region [⟨some 31, none, .mov (.t 5)⟩,
      ⟨some 32, none, .call 12 [.t 31]⟩,
      ⟨some 33, none, .bin .neq (.t 32) (.c (.d (.i .i64 0)))⟩,
      ⟨some 34, none, .mov (.t 33)⟩,
      ⟨some 35, (some (3, false)), .mov (.t 4)⟩,
      ⟨some 36, (some (3, false)), .len false (.t 35)⟩,
      ⟨some 37, (some (3, false)), .bin .neq (.t 36) (.c (.d (.i .i64 288)))⟩,
      ⟨some 38, none, .pick (.t 34) (.c (.d (.b true))) (.t 37)⟩,
      ⟨some 39, none, .mov (.t 38)⟩,
      ⟨some 40, (some (8, false)), .mov (.t 4)⟩,
      ⟨some 41, (some (8, false)), .iaddr 1 (.t 40) (.c (.d (.i .i64 66)))⟩,
      ⟨some 42, (some (8, false)), .load 1 false (.t 41)⟩,
      ⟨some 43, (some (8, false)), .bin .neq (.t 42) (.c (.d (.i .u8 3)))⟩,
      ⟨some 44, none, .pick (.t 39) (.c (.d (.b true))) (.t 43)⟩,
      ⟨some 45, none, .mov (.t 44)⟩,
      ⟨some 46, (some (14, false)), .mov (.t 4)⟩,
      ⟨some 47, (some (14, false)), .iaddr 1 (.t 46) (.c (.d (.i .i64 72)))⟩,
      ⟨some 48, (some (14, false)), .load 1 false (.t 47)⟩,
      ⟨some 49, (some (14, false)), .bin .neq (.t 48) (.c (.d (.i .u8 0)))⟩,
      ⟨some 50, none, .pick (.t 45) (.c (.d (.b true))) (.t 49)⟩,
      ⟨some 51, none, .mov (.t 50)⟩,
      ⟨some 52, (some (20, false)), .mov (.t 4)⟩,
      ⟨some 53, (some (20, false)), .iaddr 1 (.t 52) (.c (.d (.i .i64 73)))⟩,
      ⟨some 54, (some (20, false)), .load 1 false (.t 53)⟩,
      ⟨some 55, (some (20, false)), .bin .neq (.t 54) (.c (.d (.i .u8 46)))⟩,
      ⟨some 56, none, .pick (.t 51) (.c (.d (.b true))) (.t 55)⟩] false [])
     (.keep [4, 56] (.cond (.t 56)
      (.keep [] (.seq
      (.region [⟨some 0, none, .mov (.c (.d (.b false)))⟩] false [])
      (.ret)))
      (.skip))))
     (.keep [4] (.seq
     (.region [⟨some 58, none, .mov (.t 4)⟩,
      ⟨some 59, none, .call 178 [.t 58]⟩,
      ⟨some 57, none, .mov (.t 59)⟩,
      ⟨some 60, none, .extract 0 (.t 57)⟩,
      ⟨some 61, none, .extract 1 (.t 57)⟩,
      ⟨some 62, none, .extract 2 (.t 57)⟩,
      ⟨some 1, none, .mov (.t 60)⟩,
      ⟨some 2, none, .mov (.t 61)⟩,
      ⟨some 3, none, .mov (.t 62)⟩] false [])
     (.keep [1, 2, 3] (.seq
      (.region [⟨some 63, none, .mov (.t 3)⟩,
       ⟨some 64, none, .call 12 [.t 63]⟩,
       ⟨some 65, none, .bin .eql (.t 64) (.c (.d (.i .i64 0)))⟩,
       ⟨some 66, none, .mov (.t 65)⟩,
       ⟨some 67, (some (3, true)), .mov (.t 2)⟩,
       ⟨some 68, (some (3, true)), .bin .eql (.t 67) (.c (.d (.i .i64 0)))⟩,
       ⟨some 69, none, .pick (.t 66) (.t 68) (.c (.d (.b false)))⟩,
       ⟨some 70, none, .mov (.t 69)⟩,
       ⟨some 71, (some (7, true)), .mov (.t 1)⟩,
       ⟨some 72, (some (7, true)), .len false (.t 71)⟩,
       ⟨some 73, (some (7, true)), .bin .eql (.t 72) (.c (.d (.i .i64 1)))⟩,
       ⟨some 74, none, .pick (.t 70) (.t 73) (.c (.d (.b false)))⟩,
       ⟨some 75, none, .mov (.t 74)⟩,
       ⟨some 76, (some (12, true)), .mov (.t 1)⟩,
       ⟨some 77, (some (12, true)), .iaddr 8 (.t 76) (.c (.d (.i .i64 0)))⟩,
       ⟨some 78, (some (12, true)), .load 8 true (.t 77)⟩,
       ⟨some 79, (some (12, true)), .lits 3 [.i .u8 0] [(0, 1, .c (.d (.i .u8 1))), (1, 1, .c (.d (.i .u8 2))), (2, 1, .c (.d (.i .u8 3)))]⟩,
       ⟨some 80, (some (12, true)), .call 184 [.c (.d (.s [46, 116, 101, 120, 116])), .t 79]⟩,
       ⟨some 81, (some (12, true)), .call 185 [.t 78, .t 80]⟩,
       ⟨some 82, none, .pick (.t 75) (.t 81) (.c (.d (.b false)))⟩,
       ⟨some 0, none, .mov (.t 82)⟩] true [0, 1, 3, 7, 15, 31, 63, 127, 255, 511, 1023, 2047, 4095, 8191, 16383, 32767, 8191, 73727, 262143, 524287, 1048575])
      (.ret)))))))))))))⟩

/-- spindle/spindlelaw9.plain -/
def F184_spindlelaw9_plain : SFn := ⟨2, true, true, [.cell 4 8 true],
  .seq
   (.region [⟨some 4, none, .alloc [.s [], .i .i64 0, .i .i64 0, .i .i64 0, .i .i64 0, .i .i64 0, .i .i64 0, .sl 0 false []]⟩] false [])
   (.keep [0, 1, 4] (.seq
   (.region [⟨some 5, none, .mov (.t 0)⟩,
    ⟨some 6, none, .mov (.t 1)⟩,
    ⟨some 7, none, .build [.s [], .i .i64 0, .i .i64 0, .i .i64 0, .i .i64 0, .i .i64 0, .i .i64 0, .sl 0 false []] [(0, 1, .t 5), (1, 1, .c (.d (.i .i64 1))), (2, 1, .c (.d (.i .i64 6))), (5, 1, .c (.d (.i .i64 8))), (7, 1, .t 6)]⟩,
    ⟨none, none, .store 8 (.t 4) (.t 7)⟩] false [])
   (.ret)))⟩

/-- spindle/spindlelaw9.written -/
def F350_spindlelaw9_written : SFn := ⟨3, false, false, [.tmp 6],
  .seq
   (.region [⟨some 6, none, .mov (.c (.d (.b false)))⟩] false [])
   (.keep [0, 1, 2] (.seq
   (.region [⟨some 15, none, .mov (.t 0)⟩,
    ⟨some 16, none, .call 352 [.t 15]⟩,
    ⟨some 14, none, .mov (.t 16)⟩,
    ⟨some 17, none, .extract 0 (.t 14)⟩,
    ⟨some 18, none, .extract 1 (.t 14)⟩,
    ⟨some 7, none, .mov (.t 17)⟩,
    ⟨some 8, none, .mov (.t 18)⟩] false [])
   (.keep [0, 1, 2, 7, 8] (.seq
    (.region [⟨some 20, none, .mov (.t 1)⟩,
     ⟨some 21, none, .mov (.t 0)⟩,
     ⟨some 22, none, .call 353 [.t 20, .t 21]⟩,
     ⟨some 23, none, .call 177 [.t 22]⟩,
     ⟨some 19, none, .mov (.t 23)⟩,
     ⟨some 24, none, .extract 0 (.t 19)⟩,
     ⟨some 25, none, .extract 1 (.t 19)⟩,
     ⟨some 9, none, .mov (.t 24)⟩,
     ⟨some 10, none, .mov (.t 25)⟩] false [])
    (.keep [0, 1, 2, 7, 8, 9, 10] (.seq
    (.seq
     (.region [⟨some 26, none, .mov (.t 1)⟩,
      ⟨some 27, none, .mov (.t 0)⟩,
      ⟨some 28, none, .call 354 [.t 26, .t 27]⟩,
      ⟨some 29, none, .un .not (.t 28)⟩,
      ⟨some 30, none, .mov (.t 29)⟩,
      ⟨some 31, (some (4, false)), .mov (.t 10)⟩,
      ⟨some 32, (some (4, false)), .call 12 [.t 31]⟩,
      ⟨some 33, (some (4, false)), .mov (.t 8)⟩,
      ⟨some 34, (some (4, false)), .bin .neq (.t 32) (.t 33)⟩,
      ⟨some 35, none, .pick (.t 30) (.c (.d (.b true))) (.t 34)⟩,
      ⟨some 36, none, .mov (.t 35)⟩,
      ⟨some 37, (some (10, false)), .mov (.t 9)⟩,
      ⟨some 38, (some (10, false)), .mov (.t 7)⟩,
      ⟨some 39, (some (10, false)), .call 73 [.t 37, .t 38]⟩,
      ⟨some 40, (some (10, false)), .un .not (.t 39)⟩,
      ⟨some 41, none, .pick (.t 36) (.c (.d (.b true))) (.t 40)⟩] false [])
     (.keep [0, 1, 2, 7, 8, 9, 41] (.cond (.t 41)
     (.keep [] (.seq
      (.region [⟨some 6, none, .mov (.c (.d (.b false)))⟩] false [])
      (.ret)))
     (.skip))))
    (.keep [0, 1, 2, 7, 8, 9] (.seq
     (.region [⟨some 42, none, .mov (.t 2)⟩,
      ⟨some 43, none, .mov (.t 9)⟩,
      ⟨some 44, none, .mov (.t 0)⟩,
      ⟨some 45, none, .len false (.t 44)⟩,
      ⟨some 46, none, .call 126 [.t 42, .t 43, .t 45]⟩] false [])
     (.keep [0, 1, 2, 7, 8] (.seq
     (.region [⟨some 48, none, .mov (.t 1)⟩,
      ⟨some 49, none, .mov (.t 0)⟩,
      ⟨some 50, none, .call 353 [.t 48, .t 49]⟩,
      ⟨some 51, none, .call 177 [.t 50]⟩,
      ⟨some 47, none, .mov (.t 51)⟩,
      ⟨some 52, none, .extract 0 (.t 47)⟩,
      ⟨some 53, none, .extract 1 (.t 47)⟩,
      ⟨some 11, none, .mov (.t 52)⟩,
      ⟨some 12, none, .mov (.t 53)⟩] false [])
     (.keep [0, 1, 2, 7, 8, 11, 12] (.seq
      (.region [⟨some 54, none, .mov (.t 1)⟩,
       ⟨some 55, none, .mov (.t 0)⟩,
       ⟨some 56, none, .call 354 [.t 54, .t 55]⟩,
       ⟨some 57, none, .mov (.t 56)⟩,
       ⟨some 58, (some (3, true)), .mov (.t 12)⟩,
       ⟨some 59, (some (3, true)), .call 12 [.t 58]⟩,
       ⟨some 60, (some (3, true)), .mov (.t 8)⟩,
       ⟨some 61, (some (3, true)), .bin .eql (.t 59) (.t 60)⟩,
       ⟨some 62, none, .pick (.t 57) (.t 61) (.c (.d (.b false)))⟩,
       ⟨some 63, none, .mov (.t 62)⟩,
       ⟨some 64, (some (9, true)), .mov (.t 11)⟩,
       ⟨some 65, (some (9, true)), .mov (.t 7)⟩,
       ⟨some 66, (some (9, true)), .call 73 [.t 64, .t 65]⟩,
       ⟨some 67, none, .pick (.t 63) (.t 66) (.c (.d (.b false)))⟩,
       ⟨some 13, none, .mov (.t 67)⟩] false [])
      (.keep [0, 2, 11, 13] (.seq
      (.region [⟨some 68, none, .mov (.t 2)⟩,
       ⟨some 69, none, .mov (.t 11)⟩,
       ⟨some 70, none, .mov (.t 0)⟩,
       ⟨some 71, none, .len false (.t 70)⟩,
       ⟨some 72, none, .bin .add (.t 71) (.c (.d (.i .i64 3)))⟩,
       ⟨some 73, none, .call 126 [.t 68, .t 69, .t 72]⟩] false [])
      (.keep [2, 13] (.seq
       (.region [⟨some 74, none, .mov (.t 13)⟩,
        ⟨some 75, none, .mov (.t 74)⟩,
        ⟨some 76, (some (1, true)), .mov (.t 2)⟩,
        ⟨some 77, (some (1, true)), .call 123 [.t 76]⟩,
        ⟨some 78, none, .pick (.t 75) (.t 77) (.c (.d (.b false)))⟩,
        ⟨some 6, none, .mov (.t 78)⟩] false [])
       (.ret)))))))))))))))))⟩

def F351_spindlelaw9_ElfWrites_b0 : SCode :=
  .seq
       (.seq
       (.region [⟨some 8, none, .mov (.t 5)⟩,
        ⟨some 9, none, .mov (.t 0)⟩,
        ⟨some 10, none, .len false (.t 9)⟩,
        ⟨some 11, none, .bin .lss (.t 8) (.t 10)⟩] false [])
       (.keep [0, 3, 4, 5, 11] (.cond (.t 11)
        (.skip)
        (.exit 0))))
       (.keep [0, 3, 4, 5] (.seq
       (.block 1 (.seq
        (.region [⟨some 14, none, .mov (.t 0)⟩,
         ⟨some 15, none, .mov (.t 5)⟩,
         ⟨some 16, none, .iaddr 1 (.t 14) (.t 15)⟩,
         ⟨some 17, none, .load 1 false (.t 16)⟩,
         ⟨some 18, none, .call 350 [.t 17, .t 3, .t 4]⟩,
         ⟨some 19, none, .un .not (.t 18)⟩] false [])
        (.keep [0, 3, 4, 5, 19] (.cond (.t 19)
         (.keep [] (.seq
         (.region [⟨some 2, none, .mov (.c (.d (.b false)))⟩] false [])
         (.ret)))
         (.skip)))))
       (.keep [0, 3, 4, 5] (.region [⟨some 12, none, .mov (.t 5)⟩,
        ⟨some 13, none, .bin .add (.t 12) (.c (.d (.i .i64 1)))⟩,
        ⟨some 5, none, .mov (.t 13)⟩] false []))))
/-- spindle/spindlelaw9.ElfWrites -/
def F351_spindlelaw9_ElfWrites : SFn := ⟨1, true, true, [.tmp 2],
  .seq
   (.region [⟨some 2, none, .mov (.c (.d (.b false)))⟩] false [])
   (.keep [0] (.seq
   (.seq
    (.region [⟨some 6, none, .call 175 []⟩,
     ⟨some 7, none, .un .not (.t 6)⟩] false [])
    (.keep [0, 7] (.cond (.t 7)
    (.keep [] (.seq
     (.region [⟨some 2, none, .mov (.c (.d (.b false)))⟩] false [])
     (.ret)))
    (.skip))))
   (.keep [0] (.seq
    (.region [⟨some 3, none, .alloc [.sl 0 false [], .sl 0 false []]⟩] false [])
    (.keep [0, 3] (.seq
    (.region [⟨some 4, none, .alloc [.i .i64 0, .i .i64 0, .b false, .sl 0 false [], .sl 0 false [], .sl 0 false [], .sl 0 false [], .sl 0 false []]⟩] false [])
    (.keep [0, 3, 4] (.seq
     (.seq
     (.region [⟨some 5, none, .mov (.c (.d (.i .i64 0)))⟩] false [])
     (.keep [0, 3, 4, 5] (.block 0 (.loop [0, 3, 4, 5] false F351_spindlelaw9_ElfWrites_b0))))
     (.keep [] (.seq
     (.region [⟨some 2, none, .mov (.c (.d (.b true)))⟩] false [])
     (.ret)))))))))))⟩

def F353_spindlelaw9_Rack_lend_b0 : SCode :=
  .seq
     (.seq
      (.region [⟨some 25, none, .mov (.t 0)⟩,
       ⟨some 26, none, .nilChk (.t 25)⟩,
       ⟨some 27, none, .faddr 1 (.t 26)⟩,
       ⟨some 28, none, .load 1 false (.t 27)⟩,
       ⟨some 29, none, .len false (.t 28)⟩,
       ⟨some 30, none, .mov (.t 1)⟩,
       ⟨some 31, none, .len false (.t 30)⟩,
       ⟨some 32, none, .bin .lss (.t 29) (.t 31)⟩] false [])
      (.keep [0, 1, 32] (.cond (.t 32)
      (.skip)
      (.exit 0))))
     (.keep [0, 1] (.block 1 (.region [⟨some 33, none, .mov (.t 0)⟩,
       ⟨some 34, none, .mov (.t 0)⟩,
       ⟨some 35, none, .nilChk (.t 34)⟩,
       ⟨some 36, none, .faddr 1 (.t 35)⟩,
       ⟨some 37, none, .load 1 false (.t 36)⟩,
       ⟨some 38, none, .build [.sl 0 false [], .i .i64 0] []⟩,
       ⟨some 39, none, .lits 1 [.sl 0 false [], .i .i64 0] [(0, 2, .t 38)]⟩,
       ⟨some 40, none, .appR 2 32 [.sl 0 false [], .i .i64 0] (.t 37) (.t 39)⟩,
       ⟨some 41, none, .nilChk (.t 33)⟩,
       ⟨some 42, none, .faddr 1 (.t 41)⟩,
       ⟨none, none, .store 1 (.t 42) (.t 40)⟩] false [])))
def F353_spindlelaw9_Rack_lend_b1 : SCode :=
  .seq
      (.seq
       (.region [⟨some 43, none, .mov (.t 5)⟩,
        ⟨some 44, none, .mov (.t 0)⟩,
        ⟨some 45, none, .nilChk (.t 44)⟩,
        ⟨some 46, none, .faddr 0 (.t 45)⟩,
        ⟨some 47, none, .load 1 false (.t 46)⟩,
        ⟨some 48, none, .len false (.t 47)⟩,
        ⟨some 49, none, .bin .lss (.t 43) (.t 48)⟩] false [])
       (.keep [0, 1, 5, 49] (.cond (.t 49)
       (.skip)
       (.exit 2))))
      (.keep [0, 1, 5] (.seq
       (.block 3 (.region [⟨some 52, none, .mov (.t 0)⟩,
        ⟨some 53, none, .nilChk (.t 52)⟩,
        ⟨some 54, none, .faddr 0 (.t 53)⟩,
        ⟨some 55, none, .load 1 false (.t 54)⟩,
        ⟨some 56, none, .mov (.t 5)⟩,
        ⟨some 57, none, .mov (.t 5)⟩,
        ⟨some 58, none, .bin .add (.t 57) (.c (.d (.i .i64 1)))⟩,
        ⟨some 59, none, .build [.s [], .i .i64 0, .i .i64 0, .i .i64 0, .i .i64 0, .i .i64 0, .i .i64 0, .sl 0 false []] [(0, 1, .c (.d (.s [98, 101, 104, 105, 110, 100]))), (1, 1, .t 58), (5, 1, .c (.d (.i .i64 1)))]⟩,
        ⟨some 60, none, .iaddr 8 (.t 55) (.t 56)⟩,
        ⟨none, none, .store 8 (.t 60) (.t 59)⟩] false []))
       (.keep [0, 1, 5] (.region [⟨some 50, none, .mov (.t 5)⟩,
        ⟨some 51, none, .bin .add (.t 50) (.c (.d (.i .i64 1)))⟩,
        ⟨some 5, none, .mov (.t 51)⟩] false []))))
def F353_spindlelaw9_Rack_lend_b2 : SCode :=
  .seq
       (.seq
       (.region [⟨some 61, none, .mov (.t 6)⟩,
        ⟨some 62, none, .mov (.t 1)⟩,
        ⟨some 63, none, .len false (.t 62)⟩,
        ⟨some 64, none, .bin .lss (.t 61) (.t 63)⟩] false [])
       (.keep [0, 1, 6, 64] (.cond (.t 64)
        (.skip)
        (.exit 4))))
       (.keep [0, 1, 6] (.seq
       (.block 5 (.seq
        (.region [⟨some 67, none, .mov (.t 0)⟩,
         ⟨some 68, none, .nilChk (.t 67)⟩,
         ⟨some 69, none, .faddr 0 (.t 68)⟩,
         ⟨some 70, none, .load 1 false (.t 69)⟩,
         ⟨some 71, none, .mov (.t 6)⟩,
         ⟨some 72, none, .mov (.t 1)⟩,
         ⟨some 73, none, .mov (.t 6)⟩,
         ⟨some 74, none, .iaddr 8 (.t 72) (.t 73)⟩,
         ⟨some 75, none, .load 8 true (.t 74)⟩,
         ⟨some 76, none, .iaddr 8 (.t 70) (.t 71)⟩,
         ⟨none, none, .store 8 (.t 76) (.t 75)⟩] true [0, 1, 3, 7, 0, 0, 0, 96, 224, 511, 1023])
        (.keep [0, 1, 6] (.region [⟨some 77, none, .mov (.t 0)⟩,
         ⟨some 78, none, .nilChk (.t 77)⟩,
         ⟨some 79, none, .faddr 0 (.t 78)⟩,
         ⟨some 80, none, .load 1 false (.t 79)⟩,
         ⟨some 81, none, .mov (.t 6)⟩,
         ⟨some 82, none, .mov (.t 0)⟩,
         ⟨some 83, none, .nilChk (.t 82)⟩,
         ⟨some 84, none, .faddr 1 (.t 83)⟩,
         ⟨some 85, none, .load 1 false (.t 84)⟩,
         ⟨some 86, none, .mov (.t 6)⟩,
         ⟨some 87, none, .iaddr 2 (.t 85) (.t 86)⟩,
         ⟨some 88, none, .mov (.t 1)⟩,
         ⟨some 89, none, .mov (.t 6)⟩,
         ⟨some 90, none, .iaddr 8 (.t 88) (.t 89)⟩,
         ⟨some 91, none, .faddr 7 (.t 90)⟩,
         ⟨some 92, none, .load 1 false (.t 91)⟩,
         ⟨some 93, none, .call 363 [.t 87, .t 92]⟩,
         ⟨some 94, none, .iaddr 8 (.t 80) (.t 81)⟩,
         ⟨some 95, none, .faddr 7 (.t 94)⟩,
         ⟨none, none, .store 1 (.t 95) (.t 93)⟩] true [0, 1, 3, 7, 0, 0, 32, 96, 224, 0, 992, 0, 0, 6144, 14336, 30720, 65504, 131071, 262143, 524287]))))
       (.keep [0, 1, 6] (.region [⟨some 65, none, .mov (.t 6)⟩,
        ⟨some 66, none, .bin .add (.t 65) (.c (.d (.i .i64 1)))⟩,
        ⟨some 6, none, .mov (.t 66)⟩] false []))))
/-- (*spindle/spindlelaw9.Rack).lend -/
def F353_spindlelaw9_Rack_lend : SFn := ⟨2, false, false, [.tmp 4],
  .seq
   (.region [⟨some 4, none, .mov (.c (.d (.sl 0 false [])))⟩] false [])
   (.keep [0, 1] (.seq
   (.seq
    (.region [⟨some 7, none, .mov (.t 0)⟩,
     ⟨some 8, none, .nilChk (.t 7)⟩,
     ⟨some 9, none, .faddr 0 (.t 8)⟩,
     ⟨some 10, none, .load 1 false (.t 9)⟩,
     ⟨some 11, none, .len false (.t 10)⟩,
     ⟨some 12, none, .mov (.t 1)⟩,
     ⟨some 13, none, .len false (.t 12)⟩,
     ⟨some 14, none, .bin .mul (.c (.d (.i .i64 2))) (.t 13)⟩,
     ⟨some 15, none, .bin .add (.t 14) (.c (.d (.i .i64 9)))⟩,
     ⟨some 16, none, .bin .lss (.t 11) (.t 15)⟩] false [])
    (.keep [0, 1, 16] (.cond (.t 16)
    (.keep [0, 1] (.region [⟨some 17, none, .mov (.t 0)⟩,
     ⟨some 18, none, .mov (.t 1)⟩,
     ⟨some 19, none, .len false (.t 18)⟩,
     ⟨some 20, none, .bin .mul (.c (.d (.i .i64 2))) (.t 19)⟩,
     ⟨some 21, none, .bin .add (.t 20) (.c (.d (.i .i64 9)))⟩,
     ⟨some 22, none, .mkR 88 [.s [], .i .i64 0, .i .i64 0, .i .i64 0, .i .i64 0, .i .i64 0, .i .i64 0, .sl 0 false []] (.t 21) (.t 21)⟩,
     ⟨some 23, none, .nilChk (.t 17)⟩,
     ⟨some 24, none, .faddr 0 (.t 23)⟩,
     ⟨none, none, .store 1 (.t 24) (.t 22)⟩] false []))
    (.skip))))
   (.keep [0, 1] (.seq
    (.block 0 (.loop [0, 1] false F353_spindlelaw9_Rack_lend_b0))
    (.keep [0, 1] (.seq
    (.seq
     (.region [⟨some 5, none, .mov (.c (.d (.i .i64 0)))⟩] false [])
     (.keep [0, 1, 5] (.block 2 (.loop [0, 1, 5] false F353_spindlelaw9_Rack_lend_b1))))
    (.keep [0, 1] (.seq
     (.seq
     (.region [⟨some 6, none, .mov (.c (.d (.i .i64 0)))⟩] false [])
     (.keep [0, 1, 6] (.block 4 (.loop [0, 1, 6] false F353_spindlelaw9_Rack_lend_b2))))
     (.keep [0, 1] (.seq
     (.region [⟨some 96, none, .mov (.t 0)⟩,
      ⟨some 97, none, .nilChk (.t 96)⟩,
      ⟨some 98, none, .faddr 0 (.t 97)⟩,
      ⟨some 99, none, .load 1 false (.t 98)⟩,
      ⟨some 100, none, .mov (.t 1)⟩,
      ⟨some 101, none, .len false (.t 100)⟩,
      ⟨some 102, none, .slc 8 (.t 99) none (some (.t 101)) none⟩,
      ⟨some 4, none, .mov (.t 102)⟩] false [])
     (.ret)))))))))))⟩

def F354_spindlelaw9_Rack_back_b0 : SCode :=
  .seq
      (.seq
      (.region [⟨some 19, none, .mov (.t 6)⟩,
       ⟨some 20, none, .mov (.t 0)⟩,
       ⟨some 21, none, .nilChk (.t 20)⟩,
       ⟨some 22, none, .faddr 0 (.t 21)⟩,
       ⟨some 23, none, .load 1 false (.t 22)⟩,
       ⟨some 24, none, .len false (.t 23)⟩,
       ⟨some 25, none, .bin .lss (.t 19) (.t 24)⟩] false [])
      (.keep [0, 1, 5, 6, 25] (.cond (.t 25)
       (.skip)
       (.exit 0))))
      (.keep [0, 1, 5, 6] (.seq
      (.block 1 (.region [⟨some 28, none, .mov (.t 5)⟩,
        ⟨some 29, none, .mov (.t 28)⟩,
        ⟨some 30, (some (1, true)), .mov (.t 0)⟩,
        ⟨some 31, (some (1, true)), .nilChk (.t 30)⟩,
        ⟨some 32, (some (1, true)), .faddr 0 (.t 31)⟩,
        ⟨some 33, (some (1, true)), .load 1 false (.t 32)⟩,
        ⟨some 34, (some (1, true)), .mov (.t 6)⟩,
        ⟨some 35, (some (1, true)), .iaddr 8 (.t 33) (.t 34)⟩,
        ⟨some 36, (some (1, true)), .load 8 true (.t 35)⟩,
        ⟨some 37, (some (1, true)), .mov (.t 6)⟩,
        ⟨some 38, (some (1, true)), .bin .add (.t 37) (.c (.d (.i .i64 1)))⟩,
        ⟨some 39, (some (1, true)), .build [.s [], .i .i64 0, .i .i64 0, .i .i64 0, .i .i64 0, .i .i64 0, .i .i64 0, .sl 0 false []] [(0, 1, .c (.d (.s [98, 101, 104, 105, 110, 100]))), (1, 1, .t 38), (5, 1, .c (.d (.i .i64 1)))]⟩,
        ⟨some 40, (some (1, true)), .call 185 [.t 36, .t 39]⟩,
        ⟨some 41, none, .pick (.t 29) (.t 40) (.c (.d (.b false)))⟩,
        ⟨some 5, none, .mov (.t 41)⟩] false []))
      (.keep [0, 1, 5, 6] (.region [⟨some 26, none, .mov (.t 6)⟩,
       ⟨some 27, none, .bin .add (.t 26) (.c (.d (.i .i64 1)))⟩,
       ⟨some 6, none, .mov (.t 27)⟩] false []))))
def F354_spindlelaw9_Rack_back_b1 : SCode :=
  .seq
      (.seq
       (.region [⟨some 42, none, .mov (.t 7)⟩,
        ⟨some 43, none, .mov (.t 1)⟩,
        ⟨some 44, none, .len false (.t 43)⟩,
        ⟨some 45, none, .bin .lss (.t 42) (.t 44)⟩] false [])
       (.keep [0, 1, 5, 7, 45] (.cond (.t 45)
       (.skip)
       (.exit 2))))
      (.keep [0, 1, 5, 7] (.seq
       (.block 3 (.seq
        (.region [⟨some 48, none, .mov (.t 0)⟩,
         ⟨some 49, none, .nilChk (.t 48)⟩,
         ⟨some 50, none, .faddr 1 (.t 49)⟩,
         ⟨some 51, none, .load 1 false (.t 50)⟩,
         ⟨some 52, none, .mov (.t 7)⟩,
         ⟨some 53, none, .iaddr 2 (.t 51) (.t 52)⟩,
         ⟨some 54, none, .mov (.t 1)⟩,
         ⟨some 55, none, .mov (.t 7)⟩,
         ⟨some 56, none, .iaddr 8 (.t 54) (.t 55)⟩,
         ⟨some 57, none, .faddr 7 (.t 56)⟩,
         ⟨some 58, none, .load 1 false (.t 57)⟩,
         ⟨some 59, none, .call 170 [.t 53, .t 58]⟩,
         ⟨some 60, none, .mov (.t 59)⟩,
         ⟨some 61, (some (12, true)), .mov (.t 5)⟩,
         ⟨some 62, none, .pick (.t 60) (.t 61) (.c (.d (.b false)))⟩,
         ⟨some 5, none, .mov (.t 62)⟩] true [0, 1, 3, 7, 0, 31, 0, 0, 192, 448, 960, 2047, 4095, 8191, 16383, 32767])
        (.keep [0, 1, 5, 7] (.region [⟨some 63, none, .mov (.t 0)⟩,
         ⟨some 64, none, .nilChk (.t 63)⟩,
         ⟨some 65, none, .faddr 0 (.t 64)⟩,
         ⟨some 66, none, .load 1 false (.t 65)⟩,
         ⟨some 67, none, .mov (.t 7)⟩,
         ⟨some 68, none, .build [.s [], .i .i64 0, .i .i64 0, .i .i64 0, .i .i64 0, .i .i64 0, .i .i64 0, .sl 0 false []] [(0, 1, .c (.d (.s [109, 105, 110, 101])))]⟩,
         ⟨some 69, none, .iaddr 8 (.t 66) (.t 67)⟩,
         ⟨none, none, .store 8 (.t 69) (.t 68)⟩] false []))))
       (.keep [0, 1, 5, 7] (.region [⟨some 46, none, .mov (.t 7)⟩,
        ⟨some 47, none, .bin .add (.t 46) (.c (.d (.i .i64 1)))⟩,
        ⟨some 7, none, .mov (.t 47)⟩] false []))))
/-- (*spindle/spindlelaw9.Rack).back -/
def F354_spindlelaw9_Rack_back : SFn := ⟨2, false, false, [.tmp 4],
  .seq
   (.region [⟨some 4, none, .mov (.c (.d (.b false)))⟩] false [])
   (.keep [0, 1] (.seq
   (.region [⟨some 8, none, .mov (.t 0)⟩,
    ⟨some 9, none, .nilChk (.t 8)⟩,
    ⟨some 10, none, .faddr 0 (.t 9)⟩,
    ⟨some 11, none, .load 1 false (.t 10)⟩,
    ⟨some 12, none, .mov (.t 1)⟩,
    ⟨some 13, none, .len false (.t 12)⟩,
    ⟨some 14, none, .slc 8 (.t 11) none (some (.t 13)) none⟩,
    ⟨some 15, none, .mov (.t 1)⟩,
    ⟨some 16, none, .call 179 [.t 14, .t 15]⟩,
    ⟨some 5, none, .mov (.t 16)⟩] false [])
   (.keep [0, 1, 5] (.seq
    (.seq
    (.region [⟨some 17, none, .mov (.t 1)⟩,
     ⟨some 18, none, .len false (.t 17)⟩,
     ⟨some 6, none, .mov (.t 18)⟩] false [])
    (.keep [0, 1, 5, 6] (.block 0 (.loop [0, 1, 5, 6] false F354_spindlelaw9_Rack_back_b0))))
    (.keep [0, 1, 5] (.seq
    (.seq
     (.region [⟨some 7, none, .mov (.c (.d (.i .i64 0)))⟩] false [])
     (.keep [0, 1, 5, 7] (.block 2 (.loop [0, 1, 5, 7] false F354_spindlelaw9_Rack_back_b1))))
    (.keep [5] (.seq
     (.region [⟨some 70, none, .mov (.t 5)⟩,
      ⟨some 4, none, .mov (.t 70)⟩] false [])
     (.ret)))))))))⟩
end Go.Sh
