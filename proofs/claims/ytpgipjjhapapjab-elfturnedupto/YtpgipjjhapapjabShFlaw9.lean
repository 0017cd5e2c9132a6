/- Shadow functions of law9, written by tr.py. -/
import Derived.Test.YtpgipjjhapapjabShBa
namespace Go.Sh
/-- spindle/spindlelaw9.awake -/
def F175_spindlelaw9_awake : SFn := ⟨0, true, true, [.tmp 0],
  .seq
   (.region [⟨some 0, none, .mov (.c (.d (.b false)))⟩] false [])
   (.keep [] (.seq
   (.region [⟨some 7, none, .lits 3 [.i .u8 0] [(0, 1, .c (.d (.i .u8 1))), (1, 1, .c (.d (.i .u8 2))), (2, 1, .c (.d (.i .u8 3)))]⟩,
    ⟨some 8, none, .call 178 [.t 7]⟩,
    ⟨some 6, none, .mov (.t 8)⟩,
    ⟨some 9, none, .extract 0 (.t 6)⟩,
    ⟨some 10, none, .extract 1 (.t 6)⟩,
    ⟨some 11, none, .extract 2 (.t 6)⟩,
    ⟨some 1, none, .mov (.t 9)⟩,
    ⟨some 2, none, .mov (.t 10)⟩,
    ⟨some 3, none, .mov (.t 11)⟩] false [])
   (.keep [1, 2, 3] (.seq
    (.seq
    (.region [⟨some 12, none, .mov (.t 3)⟩,
     ⟨some 13, none, .call 12 [.t 12]⟩,
     ⟨some 14, none, .bin .neq (.t 13) (.c (.d (.i .i64 90)))⟩,
     ⟨some 15, none, .mov (.t 14)⟩,
     ⟨some 16, (some (3, false)), .mov (.t 2)⟩,
     ⟨some 17, (some (3, false)), .bin .neq (.t 16) (.c (.d (.i .i64 3)))⟩,
     ⟨some 18, none, .pick (.t 15) (.c (.d (.b true))) (.t 17)⟩,
     ⟨some 19, none, .mov (.t 18)⟩,
     ⟨some 20, (some (7, false)), .mov (.t 1)⟩,
     ⟨some 21, (some (7, false)), .len false (.t 20)⟩,
     ⟨some 22, (some (7, false)), .bin .neq (.t 21) (.c (.d (.i .i64 0)))⟩,
     ⟨some 23, none, .pick (.t 19) (.c (.d (.b true))) (.t 22)⟩] false [])
    (.keep [23] (.cond (.t 23)
     (.keep [] (.seq
     (.region [⟨some 0, none, .mov (.c (.d (.b false)))⟩] false [])
     (.ret)))
     (.skip))))
    (.keep [] (.seq
    (.region [⟨some 25, none, .lits 3 [.i .u8 0] [(0, 1, .c (.d (.i .u8 1))), (1, 1, .c (.d (.i .u8 2))), (2, 1, .c (.d (.i .u8 3)))]⟩,
     ⟨some 26, none, .call 184 [.c (.d (.s [46, 116, 101, 120, 116])), .t 25]⟩,
     ⟨some 27, none, .lits 1 [.s [], .i .i64 0, .i .i64 0, .i .i64 0, .i .i64 0, .i .i64 0, .i .i64 0, .sl 0 false []] [(0, 8, .t 26)]⟩,
     ⟨some 28, none, .call 177 [.t 27]⟩,
     ⟨some 24, none, .mov (.t 28)⟩,
     ⟨some 29, none, .extract 0 (.t 24)⟩,
     ⟨some 30, none, .extract 1 (.t 24)⟩,
     ⟨some 4, none, .mov (.t 29)⟩,
     ⟨some 5, none, .mov (.t 30)⟩] false [])
    (.keep [4, 5] (.seq
     (.seq
     (.region [⟨some 31, none, .mov (.t 5)⟩,
      ⟨some 32, none, .call 12 [.t 31]⟩,
      ⟨some 33, none, .bin .neq (.t 32) (.c (.d (.i .i64 0)))⟩,
      ⟨some 34, none, .mov (.t 33)⟩,
      ⟨some 35, (some (3, false)), .mov (.t 4)⟩,
      ⟨some 36, (some (3, false)), .len false (.t 35)⟩,
      ⟨some 37, (some (3, false)), .bin .neq (.t 36) (.c (.d (.i .i64 288)))⟩,
      ⟨some 38, none, .pick (.t 34) (.c (.d (.b true))) (.t 37)⟩,
      ⟨some 39, none, .mov (.t 38)⟩,
      ⟨some 40, (some (8, false)), .mov (.t 4)⟩,
      ⟨some 41, (some (8, false)), .iaddr 1 (.t 40) (.c (.d (.i .i64 66)))⟩,
      ⟨some 42, (some (8, false)), .load 1 false (.t 41)⟩,
      ⟨some 43, (some (8, false)), .bin .neq (.t 42) (.c (.d (.i .u8 3)))⟩,
      ⟨some 44, none, .pick (.t 39) (.c (.d (.b true))) (.t 43)⟩,
      ⟨some 45, none, .mov (.t 44)⟩,
      ⟨some 46, (some (14, false)), .mov (.t 4)⟩,
      ⟨some 47, (some (14, false)), .iaddr 1 (.t 46) (.c (.d (.i .i64 72)))⟩,
      ⟨some 48, (some (14, false)), .load 1 false (.t 47)⟩,
      ⟨some 49, (some (14, false)), .bin .neq (.t 48) (.c (.d (.i .u8 0)))⟩,
      ⟨some 50, none, .pick (.t 45) (.c (.d (.b true))) (.t 49)⟩,
      ⟨some 51, none, .mov (.t 50)⟩,
      ⟨some 52, (some (20, false)), .mov (.t 4)⟩,
      ⟨some 53, (some (20, false)), .iaddr 1 (.t 52) (.c (.d (.i .i64 73)))⟩,
      ⟨some 54, (some (20, false)), .load 1 false (.t 53)⟩,
      ⟨some 55, (some (20, false)), .bin .neq (.t 54) (.c (.d (.i .u8 46)))⟩,
      ⟨some 56, none, .pick (.t 51) (.c (.d (.b true))) (.t 55)⟩] false [])
     (.keep [4, 56] (.cond (.t 56)
      (.keep [] (.seq
      (.region [⟨some 0, none, .mov (.c (.d (.b false)))⟩] false [])
      (.ret)))
      (.skip))))
     (.keep [4] (.seq
     (.region [⟨some 58, none, .mov (.t 4)⟩,
      ⟨some 59, none, .call 178 [.t 58]⟩,
      ⟨some 57, none, .mov (.t 59)⟩,
      ⟨some 60, none, .extract 0 (.t 57)⟩,
      ⟨some 61, none, .extract 1 (.t 57)⟩,
      ⟨some 62, none, .extract 2 (.t 57)⟩,
      ⟨some 1, none, .mov (.t 60)⟩,
      ⟨some 2, none, .mov (.t 61)⟩,
      ⟨some 3, none, .mov (.t 62)⟩] false [])
     (.keep [1, 2, 3] (.seq
      (.region [⟨some 63, none, .mov (.t 3)⟩,
       ⟨some 64, none, .call 12 [.t 63]⟩,
       ⟨some 65, none, .bin .eql (.t 64) (.c (.d (.i .i64 0)))⟩,
       ⟨some 66, none, .mov (.t 65)⟩,
       ⟨some 67, (some (3, true)), .mov (.t 2)⟩,
       ⟨some 68, (some (3, true)), .bin .eql (.t 67) (.c (.d (.i .i64 0)))⟩,
       ⟨some 69, none, .pick (.t 66) (.t 68) (.c (.d (.b false)))⟩,
       ⟨some 70, none, .mov (.t 69)⟩,
       ⟨some 71, (some (7, true)), .mov (.t 1)⟩,
       ⟨some 72, (some (7, true)), .len false (.t 71)⟩,
       ⟨some 73, (some (7, true)), .bin .eql (.t 72) (.c (.d (.i .i64 1)))⟩,
       ⟨some 74, none, .pick (.t 70) (.t 73) (.c (.d (.b false)))⟩,
       ⟨some 75, none, .mov (.t 74)⟩,
       ⟨some 76, (some (12, true)), .mov (.t 1)⟩,
       ⟨some 77, (some (12, true)), .iaddr 8 (.t 76) (.c (.d (.i .i64 0)))⟩,
       ⟨some 78, (some (12, true)), .load 8 true (.t 77)⟩,
       ⟨some 79, (some (12, true)), .lits 3 [.i .u8 0] [(0, 1, .c (.d (.i .u8 1))), (1, 1, .c (.d (.i .u8 2))), (2, 1, .c (.d (.i .u8 3)))]⟩,
       ⟨some 80, (some (12, true)), .call 184 [.c (.d (.s [46, 116, 101, 120, 116])), .t 79]⟩,
       ⟨some 81, (some (12, true)), .call 185 [.t 78, .t 80]⟩,
       ⟨some 82, none, .pick (.t 75) (.t 81) (.c (.d (.b false)))⟩,
       ⟨some 0, none, .mov (.t 82)⟩] true [0, 1, 3, 7, 15, 31, 63, 127, 255, 511, 1023, 2047, 4095, 8191, 16383, 32767, 8191, 73727, 262143, 524287, 1048575])
      (.ret)))))))))))))⟩

/-- spindle/spindlelaw9.ElfBack -/
def F180_spindlelaw9_ElfBack : SFn := ⟨1, true, true, [.tmp 2],
  .seq
   (.region [⟨some 2, none, .mov (.c (.d (.b false)))⟩] false [])
   (.keep [0] (.seq
   (.seq
    (.region [⟨some 8, none, .call 175 []⟩,
     ⟨some 9, none, .un .not (.t 8)⟩] false [])
    (.keep [0, 9] (.cond (.t 9)
    (.keep [] (.seq
     (.region [⟨some 2, none, .mov (.c (.d (.b false)))⟩] false [])
     (.ret)))
    (.skip))))
   (.keep [0] (.seq
    (.region [⟨some 11, none, .mov (.t 0)⟩,
     ⟨some 12, none, .call 176 [.t 11]⟩,
     ⟨some 13, none, .call 177 [.t 12]⟩,
     ⟨some 10, none, .mov (.t 13)⟩,
     ⟨some 14, none, .extract 0 (.t 10)⟩,
     ⟨some 15, none, .extract 1 (.t 10)⟩,
     ⟨some 3, none, .mov (.t 14)⟩,
     ⟨some 4, none, .mov (.t 15)⟩] false [])
    (.keep [0, 3, 4] (.seq
    (.seq
     (.region [⟨some 16, none, .mov (.t 4)⟩,
      ⟨some 17, none, .call 12 [.t 16]⟩,
      ⟨some 18, none, .bin .neq (.t 17) (.c (.d (.i .i64 0)))⟩] false [])
     (.keep [0, 3, 4, 18] (.cond (.t 18)
     (.keep [3, 4] (.seq
      (.region [⟨some 19, none, .mov (.t 4)⟩,
       ⟨some 20, none, .call 12 [.t 19]⟩,
       ⟨some 21, none, .bin .eql (.t 20) (.c (.d (.i .i64 92)))⟩,
       ⟨some 22, none, .mov (.t 21)⟩,
       ⟨some 23, (some (3, true)), .mov (.t 3)⟩,
       ⟨some 24, (some (3, true)), .len false (.t 23)⟩,
       ⟨some 25, (some (3, true)), .bin .eql (.t 24) (.c (.d (.i .i64 0)))⟩,
       ⟨some 26, none, .pick (.t 22) (.t 25) (.c (.d (.b false)))⟩,
       ⟨some 2, none, .mov (.t 26)⟩] false [])
      (.ret)))
     (.skip))))
    (.keep [0, 3] (.seq
     (.region [⟨some 28, none, .mov (.t 3)⟩,
      ⟨some 29, none, .call 178 [.t 28]⟩,
      ⟨some 27, none, .mov (.t 29)⟩,
      ⟨some 30, none, .extract 0 (.t 27)⟩,
      ⟨some 31, none, .extract 1 (.t 27)⟩,
      ⟨some 32, none, .extract 2 (.t 27)⟩,
      ⟨some 5, none, .mov (.t 30)⟩,
      ⟨some 6, none, .mov (.t 31)⟩,
      ⟨some 7, none, .mov (.t 32)⟩] false [])
     (.keep [0, 5, 6, 7] (.seq
     (.region [⟨some 33, none, .mov (.t 7)⟩,
      ⟨some 34, none, .call 12 [.t 33]⟩,
      ⟨some 35, none, .bin .eql (.t 34) (.c (.d (.i .i64 0)))⟩,
      ⟨some 36, none, .mov (.t 35)⟩,
      ⟨some 37, (some (3, true)), .mov (.t 6)⟩,
      ⟨some 38, (some (3, true)), .bin .eql (.t 37) (.c (.d (.i .i64 0)))⟩,
      ⟨some 39, none, .pick (.t 36) (.t 38) (.c (.d (.b false)))⟩,
      ⟨some 40, none, .mov (.t 39)⟩,
      ⟨some 41, (some (7, true)), .mov (.t 5)⟩,
      ⟨some 42, (some (7, true)), .mov (.t 0)⟩,
      ⟨some 43, (some (7, true)), .call 179 [.t 41, .t 42]⟩,
      ⟨some 44, none, .pick (.t 40) (.t 43) (.c (.d (.b false)))⟩,
      ⟨some 2, none, .mov (.t 44)⟩] false [])
     (.ret)))))))))))⟩

/-- spindle/spindlelaw9.ElfForm -/
def F181_spindlelaw9_ElfForm : SFn := ⟨1, true, true, [.tmp 2],
  .seq
   (.region [⟨some 2, none, .mov (.c (.d (.b false)))⟩] false [])
   (.keep [0] (.seq
   (.seq
    (.region [⟨some 8, none, .call 175 []⟩,
     ⟨some 9, none, .un .not (.t 8)⟩] false [])
    (.keep [0, 9] (.cond (.t 9)
    (.keep [] (.seq
     (.region [⟨some 2, none, .mov (.c (.d (.b false)))⟩] false [])
     (.ret)))
    (.skip))))
   (.keep [0] (.seq
    (.region [⟨some 11, none, .mov (.t 0)⟩,
     ⟨some 12, none, .call 35 [.t 11]⟩,
     ⟨some 13, none, .call 178 [.t 12]⟩,
     ⟨some 10, none, .mov (.t 13)⟩,
     ⟨some 14, none, .extract 0 (.t 10)⟩,
     ⟨some 15, none, .extract 1 (.t 10)⟩,
     ⟨some 16, none, .extract 2 (.t 10)⟩,
     ⟨some 3, none, .mov (.t 14)⟩,
     ⟨some 4, none, .mov (.t 15)⟩,
     ⟨some 5, none, .mov (.t 16)⟩] false [])
    (.keep [0, 3, 5] (.seq
    (.seq
     (.region [⟨some 17, none, .mov (.t 5)⟩,
      ⟨some 18, none, .call 12 [.t 17]⟩,
      ⟨some 19, none, .bin .neq (.t 18) (.c (.d (.i .i64 0)))⟩] false [])
     (.keep [0, 3, 19] (.cond (.t 19)
     (.keep [3] (.seq
      (.region [⟨some 20, none, .mov (.t 3)⟩,
       ⟨some 21, none, .len false (.t 20)⟩,
       ⟨some 22, none, .bin .eql (.t 21) (.c (.d (.i .i64 0)))⟩,
       ⟨some 2, none, .mov (.t 22)⟩] false [])
      (.ret)))
     (.skip))))
    (.keep [0, 3] (.seq
     (.region [⟨some 24, none, .mov (.t 3)⟩,
      ⟨some 25, none, .call 177 [.t 24]⟩,
      ⟨some 23, none, .mov (.t 25)⟩,
      ⟨some 26, none, .extract 0 (.t 23)⟩,
      ⟨some 27, none, .extract 1 (.t 23)⟩,
      ⟨some 6, none, .mov (.t 26)⟩,
      ⟨some 7, none, .mov (.t 27)⟩] false [])
     (.keep [0, 6, 7] (.seq
     (.region [⟨some 28, none, .mov (.t 7)⟩,
      ⟨some 29, none, .call 12 [.t 28]⟩,
      ⟨some 30, none, .bin .eql (.t 29) (.c (.d (.i .i64 0)))⟩,
      ⟨some 31, none, .mov (.t 30)⟩,
      ⟨some 32, (some (3, true)), .mov (.t 6)⟩,
      ⟨some 33, (some (3, true)), .mov (.t 0)⟩,
      ⟨some 34, (some (3, true)), .call 73 [.t 32, .t 33]⟩,
      ⟨some 35, none, .pick (.t 31) (.t 34) (.c (.d (.b false)))⟩,
      ⟨some 2, none, .mov (.t 35)⟩] false [])
     (.ret)))))))))))⟩

/-- spindle/spindlelaw9.ElfTurned -/
def F182_spindlelaw9_ElfTurned : SFn := ⟨3, true, true, [.tmp 6],
  .seq
   (.region [⟨some 6, none, .mov (.c (.d (.b false)))⟩] false [])
   (.keep [0, 1, 2] (.seq
   (.seq
    (.region [⟨some 14, none, .call 175 []⟩,
     ⟨some 15, none, .un .not (.t 14)⟩] false [])
    (.keep [0, 1, 2, 15] (.cond (.t 15)
    (.keep [] (.seq
     (.region [⟨some 6, none, .mov (.c (.d (.b false)))⟩] false [])
     (.ret)))
    (.skip))))
   (.keep [0, 1, 2] (.seq
    (.region [⟨some 17, none, .mov (.t 0)⟩,
     ⟨some 18, none, .call 176 [.t 17]⟩,
     ⟨some 19, none, .call 177 [.t 18]⟩,
     ⟨some 16, none, .mov (.t 19)⟩,
     ⟨some 20, none, .extract 0 (.t 16)⟩,
     ⟨some 21, none, .extract 1 (.t 16)⟩,
     ⟨some 7, none, .mov (.t 20)⟩,
     ⟨some 8, none, .mov (.t 21)⟩] false [])
    (.keep [0, 1, 2, 7, 8] (.seq
    (.seq
     (.region [⟨some 22, none, .mov (.t 8)⟩,
      ⟨some 23, none, .call 12 [.t 22]⟩,
      ⟨some 24, none, .bin .neq (.t 23) (.c (.d (.i .i64 0)))⟩,
      ⟨some 25, none, .mov (.t 24)⟩,
      ⟨some 26, (some (3, false)), .mov (.t 1)⟩,
      ⟨some 27, (some (3, false)), .bin .lss (.t 26) (.c (.d (.i .i64 0)))⟩,
      ⟨some 28, none, .pick (.t 25) (.c (.d (.b true))) (.t 27)⟩,
      ⟨some 29, none, .mov (.t 28)⟩,
      ⟨some 30, (some (7, false)), .mov (.t 1)⟩,
      ⟨some 31, (some (7, false)), .mov (.t 7)⟩,
      ⟨some 32, (some (7, false)), .len false (.t 31)⟩,
      ⟨some 33, (some (7, false)), .bin .geq (.t 30) (.t 32)⟩,
      ⟨some 34, none, .pick (.t 29) (.c (.d (.b true))) (.t 33)⟩,
      ⟨some 35, none, .mov (.t 34)⟩,
      ⟨some 36, (some (13, false)), .mov (.t 2)⟩,
      ⟨some 37, (some (13, false)), .bin .and (.t 36) (.c (.d (.i .i64 255)))⟩,
      ⟨some 38, (some (13, false)), .bin .eql (.t 37) (.c (.d (.i .i64 0)))⟩,
      ⟨some 39, none, .pick (.t 35) (.c (.d (.b true))) (.t 38)⟩] false [])
     (.keep [0, 1, 2, 7, 8, 39] (.cond (.t 39)
     (.keep [8] (.seq
      (.region [⟨some 40, none, .mov (.t 8)⟩,
       ⟨some 41, none, .call 12 [.t 40]⟩,
       ⟨some 42, none, .bin .eql (.t 41) (.c (.d (.i .i64 0)))⟩,
       ⟨some 43, none, .mov (.t 42)⟩,
       ⟨some 44, (some (3, false)), .mov (.t 8)⟩,
       ⟨some 45, (some (3, false)), .call 12 [.t 44]⟩,
       ⟨some 46, (some (3, false)), .bin .eql (.t 45) (.c (.d (.i .i64 92)))⟩,
       ⟨some 47, none, .pick (.t 43) (.c (.d (.b true))) (.t 46)⟩,
       ⟨some 6, none, .mov (.t 47)⟩] false [])
      (.ret)))
     (.skip))))
    (.keep [0, 1, 2, 7] (.seq
     (.region [⟨some 48, none, .mov (.t 7)⟩,
      ⟨some 49, none, .mov (.t 1)⟩,
      ⟨some 50, none, .mov (.t 7)⟩,
      ⟨some 51, none, .mov (.t 1)⟩,
      ⟨some 52, none, .iaddr 1 (.t 50) (.t 51)⟩,
      ⟨some 53, none, .load 1 false (.t 52)⟩,
      ⟨some 54, none, .mov (.t 2)⟩,
      ⟨some 55, none, .conv .u8 (.t 54)⟩,
      ⟨some 56, none, .bin .xor (.t 53) (.t 55)⟩,
      ⟨some 57, none, .iaddr 1 (.t 48) (.t 49)⟩,
      ⟨none, none, .store 1 (.t 57) (.t 56)⟩] false [])
     (.keep [0, 7] (.seq
     (.region [⟨some 59, none, .mov (.t 7)⟩,
      ⟨some 60, none, .call 35 [.t 59]⟩,
      ⟨some 61, none, .call 178 [.t 60]⟩,
      ⟨some 58, none, .mov (.t 61)⟩,
      ⟨some 62, none, .extract 0 (.t 58)⟩,
      ⟨some 63, none, .extract 1 (.t 58)⟩,
      ⟨some 64, none, .extract 2 (.t 58)⟩,
      ⟨some 9, none, .mov (.t 62)⟩,
      ⟨some 10, none, .mov (.t 63)⟩,
      ⟨some 11, none, .mov (.t 64)⟩] false [])
     (.keep [0, 7, 9, 10, 11] (.seq
      (.seq
      (.region [⟨some 65, none, .mov (.t 11)⟩,
       ⟨some 66, none, .call 12 [.t 65]⟩,
       ⟨some 67, none, .bin .neq (.t 66) (.c (.d (.i .i64 0)))⟩] false [])
      (.keep [0, 7, 9, 10, 67] (.cond (.t 67)
       (.keep [7, 9, 10] (.seq
       (.region [⟨some 68, none, .mov (.t 9)⟩,
        ⟨some 69, none, .len false (.t 68)⟩,
        ⟨some 70, none, .bin .eql (.t 69) (.c (.d (.i .i64 0)))⟩,
        ⟨some 71, none, .mov (.t 70)⟩,
        ⟨some 72, (some (3, true)), .mov (.t 10)⟩,
        ⟨some 73, (some (3, true)), .bin .geq (.t 72) (.c (.d (.i .i64 0)))⟩,
        ⟨some 74, none, .pick (.t 71) (.t 73) (.c (.d (.b false)))⟩,
        ⟨some 75, none, .mov (.t 74)⟩,
        ⟨some 76, (some (7, true)), .mov (.t 10)⟩,
        ⟨some 77, (some (7, true)), .mov (.t 7)⟩,
        ⟨some 78, (some (7, true)), .len false (.t 77)⟩,
        ⟨some 79, (some (7, true)), .bin .leq (.t 76) (.t 78)⟩,
        ⟨some 80, none, .pick (.t 75) (.t 79) (.c (.d (.b false)))⟩,
        ⟨some 6, none, .mov (.t 80)⟩] false [])
       (.ret)))
       (.skip))))
      (.keep [0, 7, 9, 10] (.seq
      (.region [⟨some 82, none, .mov (.t 9)⟩,
       ⟨some 83, none, .call 176 [.t 82]⟩,
       ⟨some 84, none, .call 177 [.t 83]⟩,
       ⟨some 81, none, .mov (.t 84)⟩,
       ⟨some 85, none, .extract 0 (.t 81)⟩,
       ⟨some 86, none, .extract 1 (.t 81)⟩,
       ⟨some 12, none, .mov (.t 85)⟩,
       ⟨some 13, none, .mov (.t 86)⟩] false [])
      (.keep [0, 7, 9, 10, 12, 13] (.seq
       (.region [⟨some 87, none, .mov (.t 10)⟩,
        ⟨some 88, none, .bin .eql (.t 87) (.c (.d (.i .i64 0)))⟩,
        ⟨some 89, none, .mov (.t 88)⟩,
        ⟨some 90, (some (2, true)), .mov (.t 9)⟩,
        ⟨some 91, (some (2, true)), .mov (.t 0)⟩,
        ⟨some 92, (some (2, true)), .call 179 [.t 90, .t 91]⟩,
        ⟨some 93, (some (2, true)), .un .not (.t 92)⟩,
        ⟨some 94, none, .pick (.t 89) (.t 93) (.c (.d (.b false)))⟩,
        ⟨some 95, none, .mov (.t 94)⟩,
        ⟨some 96, (some (8, true)), .mov (.t 13)⟩,
        ⟨some 97, (some (8, true)), .call 12 [.t 96]⟩,
        ⟨some 98, (some (8, true)), .bin .eql (.t 97) (.c (.d (.i .i64 0)))⟩,
        ⟨some 99, none, .pick (.t 95) (.t 98) (.c (.d (.b false)))⟩,
        ⟨some 100, none, .mov (.t 99)⟩,
        ⟨some 101, (some (13, true)), .mov (.t 12)⟩,
        ⟨some 102, (some (13, true)), .mov (.t 7)⟩,
        ⟨some 103, (some (13, true)), .call 73 [.t 101, .t 102]⟩,
        ⟨some 104, none, .pick (.t 100) (.t 103) (.c (.d (.b false)))⟩,
        ⟨some 6, none, .mov (.t 104)⟩] false [])
       (.ret)))))))))))))))))⟩

/-- spindle/spindlelaw9.ElfCut -/
def F183_spindlelaw9_ElfCut : SFn := ⟨3, true, true, [.tmp 6],
  .seq
   (.region [⟨some 6, none, .mov (.c (.d (.b false)))⟩] false [])
   (.keep [0, 1, 2] (.seq
   (.seq
    (.region [⟨some 15, none, .call 175 []⟩,
     ⟨some 16, none, .un .not (.t 15)⟩] false [])
    (.keep [0, 1, 2, 16] (.cond (.t 16)
    (.keep [] (.seq
     (.region [⟨some 6, none, .mov (.c (.d (.b false)))⟩] false [])
     (.ret)))
    (.skip))))
   (.keep [0, 1, 2] (.seq
    (.region [⟨some 18, none, .mov (.t 0)⟩,
     ⟨some 19, none, .call 176 [.t 18]⟩,
     ⟨some 20, none, .call 177 [.t 19]⟩,
     ⟨some 17, none, .mov (.t 20)⟩,
     ⟨some 21, none, .extract 0 (.t 17)⟩,
     ⟨some 22, none, .extract 1 (.t 17)⟩,
     ⟨some 7, none, .mov (.t 21)⟩,
     ⟨some 8, none, .mov (.t 22)⟩] false [])
    (.keep [1, 2, 7, 8] (.seq
    (.seq
     (.region [⟨some 23, none, .mov (.t 8)⟩,
      ⟨some 24, none, .call 12 [.t 23]⟩,
      ⟨some 25, none, .bin .neq (.t 24) (.c (.d (.i .i64 0)))⟩] false [])
     (.keep [1, 2, 7, 8, 25] (.cond (.t 25)
     (.keep [8] (.seq
      (.region [⟨some 26, none, .mov (.t 8)⟩,
       ⟨some 27, none, .call 12 [.t 26]⟩,
       ⟨some 28, none, .bin .eql (.t 27) (.c (.d (.i .i64 92)))⟩,
       ⟨some 6, none, .mov (.t 28)⟩] false [])
      (.ret)))
     (.skip))))
    (.keep [1, 2, 7] (.seq
     (.seq
     (.region [⟨some 29, none, .mov (.t 1)⟩,
      ⟨some 30, none, .bin .geq (.t 29) (.c (.d (.i .i64 0)))⟩,
      ⟨some 31, none, .mov (.t 30)⟩,
      ⟨some 32, (some (2, true)), .mov (.t 1)⟩,
      ⟨some 33, (some (2, true)), .mov (.t 7)⟩,
      ⟨some 34, (some (2, true)), .len false (.t 33)⟩,
      ⟨some 35, (some (2, true)), .bin .lss (.t 32) (.t 34)⟩,
      ⟨some 36, none, .pick (.t 31) (.t 35) (.c (.d (.b false)))⟩] false [])
     (.keep [1, 2, 7, 36] (.cond (.t 36)
      (.keep [1, 2, 7] (.seq
      (.region [⟨some 38, none, .mov (.t 7)⟩,
       ⟨some 39, none, .mov (.t 1)⟩,
       ⟨some 40, none, .slc 1 (.t 38) none (some (.t 39)) none⟩,
       ⟨some 41, none, .call 35 [.t 40]⟩,
       ⟨some 42, none, .call 178 [.t 41]⟩,
       ⟨some 37, none, .mov (.t 42)⟩,
       ⟨some 43, none, .extract 0 (.t 37)⟩,
       ⟨some 44, none, .extract 1 (.t 37)⟩,
       ⟨some 45, none, .extract 2 (.t 37)⟩,
       ⟨some 9, none, .mov (.t 43)⟩,
       ⟨some 10, none, .mov (.t 44)⟩,
       ⟨some 11, none, .mov (.t 45)⟩] false [])
      (.keep [2, 7, 11] (.seq
       (.region [⟨some 46, none, .mov (.t 11)⟩,
        ⟨some 47, none, .call 12 [.t 46]⟩,
        ⟨some 48, none, .bin .neq (.t 47) (.c (.d (.i .i64 90)))⟩,
        ⟨some 49, none, .mov (.t 48)⟩,
        ⟨some 50, (some (3, true)), .mov (.t 11)⟩,
        ⟨some 51, (some (3, true)), .call 12 [.t 50]⟩,
        ⟨some 52, (some (3, true)), .bin .neq (.t 51) (.c (.d (.i .i64 91)))⟩,
        ⟨some 53, none, .pick (.t 49) (.t 52) (.c (.d (.b false)))⟩] false [])
       (.keep [2, 7, 53] (.cond (.t 53)
       (.keep [] (.seq
        (.region [⟨some 6, none, .mov (.c (.d (.b false)))⟩] false [])
        (.ret)))
       (.skip)))))))
      (.skip))))
     (.keep [2, 7] (.seq
     (.seq
      (.region [⟨some 54, none, .mov (.t 2)⟩,
       ⟨some 55, none, .len false (.t 54)⟩,
       ⟨some 56, none, .bin .eql (.t 55) (.c (.d (.i .i64 0)))⟩] false [])
      (.keep [2, 7, 56] (.cond (.t 56)
      (.keep [] (.seq
       (.region [⟨some 6, none, .mov (.c (.d (.b true)))⟩] false [])
       (.ret)))
      (.skip))))
     (.keep [2, 7] (.seq
      (.region [⟨some 58, none, .mov (.t 7)⟩,
       ⟨some 59, none, .call 81 [.t 58]⟩,
       ⟨some 60, none, .mov (.t 2)⟩,
       ⟨some 61, none, .app 1 1 (.t 59) (.t 60)⟩,
       ⟨some 62, none, .call 178 [.t 61]⟩,
       ⟨some 57, none, .mov (.t 62)⟩,
       ⟨some 63, none, .extract 0 (.t 57)⟩,
       ⟨some 64, none, .extract 1 (.t 57)⟩,
       ⟨some 65, none, .extract 2 (.t 57)⟩,
       ⟨some 12, none, .mov (.t 63)⟩,
       ⟨some 13, none, .mov (.t 64)⟩,
       ⟨some 14, none, .mov (.t 65)⟩] false [])
      (.keep [13, 14] (.seq
      (.region [⟨some 66, none, .mov (.t 14)⟩,
       ⟨some 67, none, .call 12 [.t 66]⟩,
       ⟨some 68, none, .bin .eql (.t 67) (.c (.d (.i .i64 91)))⟩,
       ⟨some 69, none, .mov (.t 68)⟩,
       ⟨some 70, (some (3, true)), .mov (.t 13)⟩,
       ⟨some 71, (some (3, true)), .bin .eql (.t 70) (.c (.d (.i .i64 40)))⟩,
       ⟨some 72, none, .pick (.t 69) (.t 71) (.c (.d (.b false)))⟩,
       ⟨some 6, none, .mov (.t 72)⟩] false [])
      (.ret)))))))))))))))⟩

/-- spindle/spindlelaw9.plain -/
def F184_spindlelaw9_plain : SFn := ⟨2, true, true, [.cell 4 8 true],
  .seq
   (.region [⟨some 4, none, .alloc [.s [], .i .i64 0, .i .i64 0, .i .i64 0, .i .i64 0, .i .i64 0, .i .i64 0, .sl 0 false []]⟩] false [])
   (.keep [0, 1, 4] (.seq
   (.region [⟨some 5, none, .mov (.t 0)⟩,
    ⟨some 6, none, .mov (.t 1)⟩,
    ⟨some 7, none, .build [.s [], .i .i64 0, .i .i64 0, .i .i64 0, .i .i64 0, .i .i64 0, .i .i64 0, .sl 0 false []] [(0, 1, .t 5), (1, 1, .c (.d (.i .i64 1))), (2, 1, .c (.d (.i .i64 6))), (5, 1, .c (.d (.i .i64 8))), (7, 1, .t 6)]⟩,
    ⟨none, none, .store 8 (.t 4) (.t 7)⟩] false [])
   (.ret)))⟩
end Go.Sh
