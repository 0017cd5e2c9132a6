/- Shadow functions of law10, written by tr.py. -/
import Derived.Test.YtbjckcenlfgcaaaShBa
namespace Go.Sh
/-- spindle/spindlelaw10.awake -/
def F30_spindlelaw10_awake : SFn := ⟨0, true, true, [.tmp 0],
  .seq
   (.region [⟨some 0, none, .mov (.c (.d (.b false)))⟩] false [])
   (.keep [] (.seq
   (.region [⟨some 10, none, .build [.i .i64 0, .i .i64 0, .i .i64 0, .i .i64 0, .i .i64 0, .i .i64 0] [(0, 1, .c (.d (.i .i64 258))), (1, 1, .c (.d (.i .i64 1)))]⟩,
    ⟨some 11, none, .lits 1 [.i .i64 0, .i .i64 0, .i .i64 0, .i .i64 0, .i .i64 0, .i .i64 0] [(0, 6, .t 10)]⟩,
    ⟨some 12, none, .call 31 [.t 11]⟩,
    ⟨some 9, none, .mov (.t 12)⟩,
    ⟨some 13, none, .extract 0 (.t 9)⟩,
    ⟨some 14, none, .extract 1 (.t 9)⟩,
    ⟨some 1, none, .mov (.t 13)⟩,
    ⟨some 2, none, .mov (.t 14)⟩] false [])
   (.keep [1, 2] (.seq
    (.seq
    (.region [⟨some 15, none, .mov (.t 2)⟩,
     ⟨some 16, none, .call 12 [.t 15]⟩,
     ⟨some 17, none, .bin .neq (.t 16) (.c (.d (.i .i64 0)))⟩,
     ⟨some 18, none, .mov (.t 17)⟩,
     ⟨some 19, (some (3, false)), .mov (.t 1)⟩,
     ⟨some 20, (some (3, false)), .b2s (.t 19)⟩,
     ⟨some 21, (some (3, false)), .mkD 1 [.i .u8 0] (.c (.d (.i .i64 24))) (.c (.d (.i .i64 24)))⟩,
     ⟨some 22, (some (3, false)), .b2s (.t 21)⟩,
     ⟨some 23, (some (3, false)), .bin .add (.t 22) (.c (.d (.s [2, 1, 0, 0, 16])))⟩,
     ⟨some 24, (some (3, false)), .mkD 1 [.i .u8 0] (.c (.d (.i .i64 19))) (.c (.d (.i .i64 19)))⟩,
     ⟨some 25, (some (3, false)), .b2s (.t 24)⟩,
     ⟨some 26, (some (3, false)), .bin .add (.t 23) (.t 25)⟩,
     ⟨some 27, (some (3, false)), .bin .neq (.t 20) (.t 26)⟩,
     ⟨some 28, none, .pick (.t 18) (.c (.d (.b true))) (.t 27)⟩] true [0, 1, 3, 7, 15, 31, 15, 79, 207, 15, 527, 1999, 4095, 8191])
    (.keep [28] (.cond (.t 28)
     (.keep [] (.seq
     (.region [⟨some 0, none, .mov (.c (.d (.b false)))⟩] false [])
     (.ret)))
     (.skip))))
    (.keep [] (.seq
    (.region [⟨some 30, none, .mkD 1 [.i .u8 0] (.c (.d (.i .i64 24))) (.c (.d (.i .i64 24)))⟩,
     ⟨some 31, none, .call 32 [.t 30]⟩,
     ⟨some 29, none, .mov (.t 31)⟩,
     ⟨some 32, none, .extract 0 (.t 29)⟩,
     ⟨some 33, none, .extract 1 (.t 29)⟩,
     ⟨some 34, none, .extract 2 (.t 29)⟩,
     ⟨some 3, none, .mov (.t 32)⟩,
     ⟨some 4, none, .mov (.t 33)⟩,
     ⟨some 5, none, .mov (.t 34)⟩] false [])
    (.keep [3, 4, 5] (.seq
     (.region [⟨some 36, none, .mkD 1 [.i .u8 0] (.c (.d (.i .i64 48))) (.c (.d (.i .i64 48)))⟩,
      ⟨some 37, none, .call 32 [.t 36]⟩,
      ⟨some 35, none, .mov (.t 37)⟩,
      ⟨some 38, none, .extract 0 (.t 35)⟩,
      ⟨some 39, none, .extract 1 (.t 35)⟩,
      ⟨some 40, none, .extract 2 (.t 35)⟩,
      ⟨some 6, none, .mov (.t 38)⟩,
      ⟨some 7, none, .mov (.t 39)⟩,
      ⟨some 8, none, .mov (.t 40)⟩] false [])
     (.keep [3, 4, 5, 7, 8] (.seq
     (.region [⟨some 41, none, .mov (.t 5)⟩,
      ⟨some 42, none, .call 12 [.t 41]⟩,
      ⟨some 43, none, .bin .eql (.t 42) (.c (.d (.i .i64 0)))⟩,
      ⟨some 44, none, .mov (.t 43)⟩,
      ⟨some 45, (some (3, true)), .mov (.t 3)⟩,
      ⟨some 46, (some (3, true)), .len false (.t 45)⟩,
      ⟨some 47, (some (3, true)), .bin .eql (.t 46) (.c (.d (.i .i64 0)))⟩,
      ⟨some 48, none, .pick (.t 44) (.t 47) (.c (.d (.b false)))⟩,
      ⟨some 49, none, .mov (.t 48)⟩,
      ⟨some 50, (some (8, true)), .mov (.t 4)⟩,
      ⟨some 51, (some (8, true)), .bin .eql (.t 50) (.c (.d (.i .i64 0)))⟩,
      ⟨some 52, none, .pick (.t 49) (.t 51) (.c (.d (.b false)))⟩,
      ⟨some 53, none, .mov (.t 52)⟩,
      ⟨some 54, (some (12, true)), .mov (.t 8)⟩,
      ⟨some 55, (some (12, true)), .call 12 [.t 54]⟩,
      ⟨some 56, (some (12, true)), .bin .eql (.t 55) (.c (.d (.i .i64 100)))⟩,
      ⟨some 57, none, .pick (.t 53) (.t 56) (.c (.d (.b false)))⟩,
      ⟨some 58, none, .mov (.t 57)⟩,
      ⟨some 59, (some (17, true)), .mov (.t 7)⟩,
      ⟨some 60, (some (17, true)), .bin .eql (.t 59) (.c (.d (.i .i64 28)))⟩,
      ⟨some 61, none, .pick (.t 58) (.t 60) (.c (.d (.b false)))⟩,
      ⟨some 0, none, .mov (.t 61)⟩] false [])
     (.ret)))))))))))⟩

def F33_spindlelaw10_sameSymbols_b0 : SCode :=
  .seq
      (.seq
      (.region [⟨some 11, none, .mov (.t 5)⟩,
       ⟨some 12, none, .mov (.t 0)⟩,
       ⟨some 13, none, .len false (.t 12)⟩,
       ⟨some 14, none, .bin .lss (.t 11) (.t 13)⟩] false [])
      (.keep [0, 1, 5, 14] (.cond (.t 14)
       (.skip)
       (.exit 0))))
      (.keep [0, 1, 5] (.seq
      (.block 1 (.seq
       (.region [⟨some 17, none, .mov (.t 0)⟩,
        ⟨some 18, none, .mov (.t 5)⟩,
        ⟨some 19, none, .iaddr 6 (.t 17) (.t 18)⟩,
        ⟨some 20, none, .load 6 true (.t 19)⟩,
        ⟨some 21, none, .mov (.t 1)⟩,
        ⟨some 22, none, .mov (.t 5)⟩,
        ⟨some 23, none, .iaddr 6 (.t 21) (.t 22)⟩,
        ⟨some 24, none, .load 6 true (.t 23)⟩,
        ⟨some 25, none, .eqv true [9, 0, 0, 0, 0, 0, 0] (.t 20) (.t 24)⟩] true [0, 0, 3, 7, 0, 0, 48, 112, 255])
       (.keep [0, 1, 5, 25] (.cond (.t 25)
        (.keep [] (.seq
        (.region [⟨some 4, none, .mov (.c (.d (.b false)))⟩] false [])
        (.ret)))
        (.skip)))))
      (.keep [0, 1, 5] (.region [⟨some 15, none, .mov (.t 5)⟩,
       ⟨some 16, none, .bin .add (.t 15) (.c (.d (.i .i64 1)))⟩,
       ⟨some 5, none, .mov (.t 16)⟩] false []))))
/-- spindle/spindlelaw10.sameSymbols -/
def F33_spindlelaw10_sameSymbols : SFn := ⟨2, true, true, [.tmp 4],
  .seq
   (.region [⟨some 4, none, .mov (.c (.d (.b false)))⟩] false [])
   (.keep [0, 1] (.seq
   (.seq
    (.region [⟨some 6, none, .mov (.t 0)⟩,
     ⟨some 7, none, .len false (.t 6)⟩,
     ⟨some 8, none, .mov (.t 1)⟩,
     ⟨some 9, none, .len false (.t 8)⟩,
     ⟨some 10, none, .bin .neq (.t 7) (.t 9)⟩] false [])
    (.keep [0, 1, 10] (.cond (.t 10)
    (.keep [] (.seq
     (.region [⟨some 4, none, .mov (.c (.d (.b false)))⟩] false [])
     (.ret)))
    (.skip))))
   (.keep [0, 1] (.seq
    (.seq
    (.region [⟨some 5, none, .mov (.c (.d (.i .i64 0)))⟩] false [])
    (.keep [0, 1, 5] (.block 0 (.loop [0, 1, 5] false F33_spindlelaw10_sameSymbols_b0))))
    (.keep [] (.seq
    (.region [⟨some 4, none, .mov (.c (.d (.b true)))⟩] false [])
    (.ret)))))))⟩

/-- spindle/spindlelaw10.SymtabBack -/
def F34_spindlelaw10_SymtabBack : SFn := ⟨1, true, true, [.tmp 2],
  .seq
   (.region [⟨some 2, none, .mov (.c (.d (.b false)))⟩] false [])
   (.keep [0] (.seq
   (.seq
    (.region [⟨some 8, none, .call 30 []⟩,
     ⟨some 9, none, .un .not (.t 8)⟩] false [])
    (.keep [0, 9] (.cond (.t 9)
    (.keep [] (.seq
     (.region [⟨some 2, none, .mov (.c (.d (.b false)))⟩] false [])
     (.ret)))
    (.skip))))
   (.keep [0] (.seq
    (.region [⟨some 11, none, .litsO 0 [.i .i64 0, .i .i64 0, .i .i64 0, .i .i64 0, .i .i64 0, .i .i64 0] []⟩,
     ⟨some 12, none, .mov (.t 0)⟩,
     ⟨some 13, none, .app 6 48 (.t 11) (.t 12)⟩,
     ⟨some 14, none, .call 31 [.t 13]⟩,
     ⟨some 10, none, .mov (.t 14)⟩,
     ⟨some 15, none, .extract 0 (.t 10)⟩,
     ⟨some 16, none, .extract 1 (.t 10)⟩,
     ⟨some 3, none, .mov (.t 15)⟩,
     ⟨some 4, none, .mov (.t 16)⟩] false [])
    (.keep [0, 3, 4] (.seq
    (.seq
     (.region [⟨some 17, none, .mov (.t 4)⟩,
      ⟨some 18, none, .call 12 [.t 17]⟩,
      ⟨some 19, none, .bin .neq (.t 18) (.c (.d (.i .i64 0)))⟩] false [])
     (.keep [0, 3, 4, 19] (.cond (.t 19)
     (.keep [3, 4] (.seq
      (.region [⟨some 20, none, .mov (.t 3)⟩,
       ⟨some 21, none, .len false (.t 20)⟩,
       ⟨some 22, none, .bin .eql (.t 21) (.c (.d (.i .i64 0)))⟩,
       ⟨some 23, none, .mov (.t 22)⟩,
       ⟨some 24, (some (3, true)), .mov (.t 4)⟩,
       ⟨some 25, (some (3, true)), .call 12 [.t 24]⟩,
       ⟨some 26, (some (3, true)), .bin .eql (.t 25) (.c (.d (.i .i64 100)))⟩,
       ⟨some 27, (some (3, true)), .mov (.t 26)⟩,
       ⟨some 28, (some (7, false)), .mov (.t 4)⟩,
       ⟨some 29, (some (7, false)), .call 12 [.t 28]⟩,
       ⟨some 30, (some (7, false)), .bin .eql (.t 29) (.c (.d (.i .i64 101)))⟩,
       ⟨some 31, (some (3, true)), .pick (.t 27) (.c (.d (.b true))) (.t 30)⟩,
       ⟨some 32, none, .pick (.t 23) (.t 31) (.c (.d (.b false)))⟩,
       ⟨some 2, none, .mov (.t 32)⟩] false [])
      (.ret)))
     (.skip))))
    (.keep [0, 3] (.seq
     (.region [⟨some 34, none, .mov (.t 3)⟩,
      ⟨some 35, none, .call 32 [.t 34]⟩,
      ⟨some 33, none, .mov (.t 35)⟩,
      ⟨some 36, none, .extract 0 (.t 33)⟩,
      ⟨some 37, none, .extract 1 (.t 33)⟩,
      ⟨some 38, none, .extract 2 (.t 33)⟩,
      ⟨some 5, none, .mov (.t 36)⟩,
      ⟨some 6, none, .mov (.t 37)⟩,
      ⟨some 7, none, .mov (.t 38)⟩] false [])
     (.keep [0, 3, 5, 6, 7] (.seq
     (.region [⟨some 39, none, .mov (.t 7)⟩,
      ⟨some 40, none, .call 12 [.t 39]⟩,
      ⟨some 41, none, .bin .eql (.t 40) (.c (.d (.i .i64 0)))⟩,
      ⟨some 42, none, .mov (.t 41)⟩,
      ⟨some 43, (some (3, true)), .mov (.t 6)⟩,
      ⟨some 44, (some (3, true)), .bin .eql (.t 43) (.c (.d (.i .i64 0)))⟩,
      ⟨some 45, none, .pick (.t 42) (.t 44) (.c (.d (.b false)))⟩,
      ⟨some 46, none, .mov (.t 45)⟩,
      ⟨some 47, (some (7, true)), .mov (.t 3)⟩,
      ⟨some 48, (some (7, true)), .len false (.t 47)⟩,
      ⟨some 49, (some (7, true)), .mov (.t 0)⟩,
      ⟨some 50, (some (7, true)), .len false (.t 49)⟩,
      ⟨some 51, (some (7, true)), .bin .mul (.c (.d (.i .i64 24))) (.t 50)⟩,
      ⟨some 52, (some (7, true)), .bin .add (.t 51) (.c (.d (.i .i64 24)))⟩,
      ⟨some 53, (some (7, true)), .bin .eql (.t 48) (.t 52)⟩,
      ⟨some 54, none, .pick (.t 46) (.t 53) (.c (.d (.b false)))⟩,
      ⟨some 55, none, .mov (.t 54)⟩,
      ⟨some 56, (some (16, true)), .mov (.t 5)⟩,
      ⟨some 57, (some (16, true)), .mov (.t 0)⟩,
      ⟨some 58, (some (16, true)), .call 33 [.t 56, .t 57]⟩,
      ⟨some 59, none, .pick (.t 55) (.t 58) (.c (.d (.b false)))⟩,
      ⟨some 2, none, .mov (.t 59)⟩] false [])
     (.ret)))))))))))⟩

/-- spindle/spindlelaw10.SymtabBegins -/
def F36_spindlelaw10_SymtabBegins : SFn := ⟨3, true, true, [.tmp 6],
  .seq
   (.region [⟨some 6, none, .mov (.c (.d (.b false)))⟩] false [])
   (.keep [0, 1, 2] (.seq
   (.seq
    (.region [⟨some 14, none, .call 30 []⟩,
     ⟨some 15, none, .un .not (.t 14)⟩] false [])
    (.keep [0, 1, 2, 15] (.cond (.t 15)
    (.keep [] (.seq
     (.region [⟨some 6, none, .mov (.c (.d (.b false)))⟩] false [])
     (.ret)))
    (.skip))))
   (.keep [0, 1, 2] (.seq
    (.region [⟨some 17, none, .litsO 0 [.i .i64 0, .i .i64 0, .i .i64 0, .i .i64 0, .i .i64 0, .i .i64 0] []⟩,
     ⟨some 18, none, .mov (.t 0)⟩,
     ⟨some 19, none, .app 6 48 (.t 17) (.t 18)⟩,
     ⟨some 20, none, .call 31 [.t 19]⟩,
     ⟨some 16, none, .mov (.t 20)⟩,
     ⟨some 21, none, .extract 0 (.t 16)⟩,
     ⟨some 22, none, .extract 1 (.t 16)⟩,
     ⟨some 7, none, .mov (.t 21)⟩,
     ⟨some 8, none, .mov (.t 22)⟩] false [])
    (.keep [0, 1, 2, 7, 8] (.seq
    (.seq
     (.region [⟨some 23, none, .mov (.t 8)⟩,
      ⟨some 24, none, .call 12 [.t 23]⟩,
      ⟨some 25, none, .bin .neq (.t 24) (.c (.d (.i .i64 0)))⟩,
      ⟨some 26, none, .mov (.t 25)⟩,
      ⟨some 27, (some (3, false)), .mov (.t 1)⟩,
      ⟨some 28, (some (3, false)), .bin .lss (.t 27) (.c (.d (.i .i64 0)))⟩,
      ⟨some 29, none, .pick (.t 26) (.c (.d (.b true))) (.t 28)⟩,
      ⟨some 30, none, .mov (.t 29)⟩,
      ⟨some 31, (some (7, false)), .mov (.t 1)⟩,
      ⟨some 32, (some (7, false)), .mov (.t 0)⟩,
      ⟨some 33, (some (7, false)), .len false (.t 32)⟩,
      ⟨some 34, (some (7, false)), .bin .gtr (.t 31) (.t 33)⟩,
      ⟨some 35, none, .pick (.t 30) (.c (.d (.b true))) (.t 34)⟩] false [])
     (.keep [0, 1, 2, 7, 35] (.cond (.t 35)
     (.keep [] (.seq
      (.region [⟨some 6, none, .mov (.c (.d (.b true)))⟩] false [])
      (.ret)))
     (.skip))))
    (.keep [0, 1, 2, 7] (.seq
     (.region [⟨some 37, none, .litsO 0 [.i .i64 0, .i .i64 0, .i .i64 0, .i .i64 0, .i .i64 0, .i .i64 0] []⟩,
      ⟨some 38, none, .mov (.t 0)⟩,
      ⟨some 39, none, .mov (.t 1)⟩,
      ⟨some 40, none, .slc 6 (.t 38) none (some (.t 39)) none⟩,
      ⟨some 41, none, .app 6 48 (.t 37) (.t 40)⟩,
      ⟨some 42, none, .call 31 [.t 41]⟩,
      ⟨some 36, none, .mov (.t 42)⟩,
      ⟨some 43, none, .extract 0 (.t 36)⟩,
      ⟨some 44, none, .extract 1 (.t 36)⟩,
      ⟨some 9, none, .mov (.t 43)⟩,
      ⟨some 10, none, .mov (.t 44)⟩] false [])
     (.keep [0, 1, 2, 7, 9, 10] (.seq
     (.seq
      (.region [⟨some 45, none, .mov (.t 10)⟩,
       ⟨some 46, none, .call 12 [.t 45]⟩,
       ⟨some 47, none, .bin .neq (.t 46) (.c (.d (.i .i64 0)))⟩,
       ⟨some 48, none, .mov (.t 47)⟩,
       ⟨some 49, (some (3, false)), .mov (.t 9)⟩,
       ⟨some 50, (some (3, false)), .b2s (.t 49)⟩,
       ⟨some 51, (some (3, false)), .mov (.t 7)⟩,
       ⟨some 52, (some (3, false)), .mov (.t 9)⟩,
       ⟨some 53, (some (3, false)), .len false (.t 52)⟩,
       ⟨some 54, (some (3, false)), .slc 1 (.t 51) none (some (.t 53)) none⟩,
       ⟨some 55, (some (3, false)), .b2s (.t 54)⟩,
       ⟨some 56, (some (3, false)), .bin .neq (.t 50) (.t 55)⟩,
       ⟨some 57, none, .pick (.t 48) (.c (.d (.b true))) (.t 56)⟩] true [0, 1, 3, 7, 15, 31, 15, 15, 143, 463, 975, 2047, 4095])
      (.keep [0, 1, 2, 7, 9, 57] (.cond (.t 57)
      (.keep [] (.seq
       (.region [⟨some 6, none, .mov (.c (.d (.b false)))⟩] false [])
       (.ret)))
      (.skip))))
     (.keep [0, 1, 2, 7, 9] (.seq
      (.seq
      (.region [⟨some 58, none, .mov (.t 2)⟩,
       ⟨some 59, none, .bin .lss (.t 58) (.c (.d (.i .i64 1)))⟩,
       ⟨some 60, none, .mov (.t 59)⟩,
       ⟨some 61, (some (2, false)), .mov (.t 2)⟩,
       ⟨some 62, (some (2, false)), .bin .gtr (.t 61) (.c (.d (.i .i64 23)))⟩,
       ⟨some 63, none, .pick (.t 60) (.c (.d (.b true))) (.t 62)⟩,
       ⟨some 64, none, .mov (.t 63)⟩,
       ⟨some 65, (some (6, false)), .mov (.t 1)⟩,
       ⟨some 66, (some (6, false)), .mov (.t 0)⟩,
       ⟨some 67, (some (6, false)), .len false (.t 66)⟩,
       ⟨some 68, (some (6, false)), .bin .eql (.t 65) (.t 67)⟩,
       ⟨some 69, none, .pick (.t 64) (.c (.d (.b true))) (.t 68)⟩] false [])
      (.keep [2, 7, 9, 69] (.cond (.t 69)
       (.keep [] (.seq
       (.region [⟨some 6, none, .mov (.c (.d (.b true)))⟩] false [])
       (.ret)))
       (.skip))))
      (.keep [2, 7, 9] (.seq
      (.region [⟨some 71, none, .mov (.t 7)⟩,
       ⟨some 72, none, .mov (.t 9)⟩,
       ⟨some 73, none, .len false (.t 72)⟩,
       ⟨some 74, none, .mov (.t 2)⟩,
       ⟨some 75, none, .bin .add (.t 73) (.t 74)⟩,
       ⟨some 76, none, .slc 1 (.t 71) none (some (.t 75)) none⟩,
       ⟨some 77, none, .call 35 [.t 76]⟩,
       ⟨some 78, none, .call 32 [.t 77]⟩,
       ⟨some 70, none, .mov (.t 78)⟩,
       ⟨some 79, none, .extract 0 (.t 70)⟩,
       ⟨some 80, none, .extract 1 (.t 70)⟩,
       ⟨some 81, none, .extract 2 (.t 70)⟩,
       ⟨some 11, none, .mov (.t 79)⟩,
       ⟨some 12, none, .mov (.t 80)⟩,
       ⟨some 13, none, .mov (.t 81)⟩] false [])
      (.keep [2, 9, 11, 12, 13] (.seq
       (.region [⟨some 82, none, .mov (.t 13)⟩,
        ⟨some 83, none, .call 12 [.t 82]⟩,
        ⟨some 84, none, .bin .eql (.t 83) (.c (.d (.i .i64 100)))⟩,
        ⟨some 85, none, .mov (.t 84)⟩,
        ⟨some 86, (some (3, true)), .mov (.t 12)⟩,
        ⟨some 87, (some (3, true)), .mov (.t 9)⟩,
        ⟨some 88, (some (3, true)), .len false (.t 87)⟩,
        ⟨some 89, (some (3, true)), .mov (.t 2)⟩,
        ⟨some 90, (some (3, true)), .bin .add (.t 88) (.t 89)⟩,
        ⟨some 91, (some (3, true)), .bin .eql (.t 86) (.t 90)⟩,
        ⟨some 92, none, .pick (.t 85) (.t 91) (.c (.d (.b false)))⟩,
        ⟨some 93, none, .mov (.t 92)⟩,
        ⟨some 94, (some (11, true)), .mov (.t 11)⟩,
        ⟨some 95, (some (11, true)), .len false (.t 94)⟩,
        ⟨some 96, (some (11, true)), .bin .eql (.t 95) (.c (.d (.i .i64 0)))⟩,
        ⟨some 97, none, .pick (.t 93) (.t 96) (.c (.d (.b false)))⟩,
        ⟨some 6, none, .mov (.t 97)⟩] false [])
       (.ret)))))))))))))))))⟩

/-- spindle/spindlelaw10.SymtabOne -/
def F37_spindlelaw10_SymtabOne : SFn := ⟨3, true, true, [.tmp 6],
  .seq
   (.region [⟨some 6, none, .mov (.c (.d (.b false)))⟩] false [])
   (.keep [0, 1, 2] (.seq
   (.seq
    (.region [⟨some 15, none, .call 30 []⟩,
     ⟨some 16, none, .un .not (.t 15)⟩] false [])
    (.keep [0, 1, 2, 16] (.cond (.t 16)
    (.keep [] (.seq
     (.region [⟨some 6, none, .mov (.c (.d (.b false)))⟩] false [])
     (.ret)))
    (.skip))))
   (.keep [0, 1, 2] (.seq
    (.region [⟨some 18, none, .mov (.t 0)⟩,
     ⟨some 19, none, .call 35 [.t 18]⟩,
     ⟨some 20, none, .call 32 [.t 19]⟩,
     ⟨some 17, none, .mov (.t 20)⟩,
     ⟨some 21, none, .extract 0 (.t 17)⟩,
     ⟨some 22, none, .extract 1 (.t 17)⟩,
     ⟨some 23, none, .extract 2 (.t 17)⟩,
     ⟨some 7, none, .mov (.t 21)⟩,
     ⟨some 8, none, .mov (.t 22)⟩,
     ⟨some 9, none, .mov (.t 23)⟩] false [])
    (.keep [0, 1, 2, 7, 9] (.seq
    (.seq
     (.region [⟨some 24, none, .mov (.t 9)⟩,
      ⟨some 25, none, .call 12 [.t 24]⟩,
      ⟨some 26, none, .bin .neq (.t 25) (.c (.d (.i .i64 0)))⟩] false [])
     (.keep [0, 1, 2, 7, 26] (.cond (.t 26)
     (.keep [7] (.seq
      (.region [⟨some 27, none, .mov (.t 7)⟩,
       ⟨some 28, none, .len false (.t 27)⟩,
       ⟨some 29, none, .bin .eql (.t 28) (.c (.d (.i .i64 0)))⟩,
       ⟨some 6, none, .mov (.t 29)⟩] false [])
      (.ret)))
     (.skip))))
    (.keep [0, 1, 2, 7] (.seq
     (.region [⟨some 31, none, .litsO 0 [.i .i64 0, .i .i64 0, .i .i64 0, .i .i64 0, .i .i64 0, .i .i64 0] []⟩,
      ⟨some 32, none, .mov (.t 7)⟩,
      ⟨some 33, none, .app 6 48 (.t 31) (.t 32)⟩,
      ⟨some 34, none, .call 31 [.t 33]⟩,
      ⟨some 30, none, .mov (.t 34)⟩,
      ⟨some 35, none, .extract 0 (.t 30)⟩,
      ⟨some 36, none, .extract 1 (.t 30)⟩,
      ⟨some 10, none, .mov (.t 35)⟩,
      ⟨some 11, none, .mov (.t 36)⟩] false [])
     (.keep [0, 1, 2, 7, 10, 11] (.seq
     (.seq
      (.region [⟨some 37, none, .mov (.t 11)⟩,
       ⟨some 38, none, .call 12 [.t 37]⟩,
       ⟨some 39, none, .bin .neq (.t 38) (.c (.d (.i .i64 0)))⟩,
       ⟨some 40, none, .mov (.t 39)⟩,
       ⟨some 41, (some (3, false)), .mov (.t 10)⟩,
       ⟨some 42, (some (3, false)), .b2s (.t 41)⟩,
       ⟨some 43, (some (3, false)), .mov (.t 0)⟩,
       ⟨some 44, (some (3, false)), .b2s (.t 43)⟩,
       ⟨some 45, (some (3, false)), .bin .neq (.t 42) (.t 44)⟩,
       ⟨some 46, none, .pick (.t 40) (.c (.d (.b true))) (.t 45)⟩] false [])
      (.keep [0, 1, 2, 7, 10, 46] (.cond (.t 46)
      (.keep [] (.seq
       (.region [⟨some 6, none, .mov (.c (.d (.b false)))⟩] false [])
       (.ret)))
      (.skip))))
     (.keep [0, 1, 2, 7, 10] (.seq
      (.seq
      (.region [⟨some 47, none, .mov (.t 1)⟩,
       ⟨some 48, none, .bin .lss (.t 47) (.c (.d (.i .i64 0)))⟩,
       ⟨some 49, none, .mov (.t 48)⟩,
       ⟨some 50, (some (2, false)), .mov (.t 1)⟩,
       ⟨some 51, (some (2, false)), .mov (.t 0)⟩,
       ⟨some 52, (some (2, false)), .len false (.t 51)⟩,
       ⟨some 53, (some (2, false)), .bin .geq (.t 50) (.t 52)⟩,
       ⟨some 54, none, .pick (.t 49) (.c (.d (.b true))) (.t 53)⟩,
       ⟨some 55, none, .mov (.t 54)⟩,
       ⟨some 56, (some (8, false)), .mov (.t 0)⟩,
       ⟨some 57, (some (8, false)), .mov (.t 1)⟩,
       ⟨some 58, (some (8, false)), .iaddr 1 (.t 56) (.t 57)⟩,
       ⟨some 59, (some (8, false)), .load 1 false (.t 58)⟩,
       ⟨some 60, (some (8, false)), .mov (.t 2)⟩,
       ⟨some 61, (some (8, false)), .bin .eql (.t 59) (.t 60)⟩,
       ⟨some 62, none, .pick (.t 55) (.c (.d (.b true))) (.t 61)⟩] false [])
      (.keep [1, 2, 7, 10, 62] (.cond (.t 62)
       (.keep [] (.seq
       (.region [⟨some 6, none, .mov (.c (.d (.b true)))⟩] false [])
       (.ret)))
       (.skip))))
      (.keep [1, 2, 7, 10] (.seq
      (.region [⟨some 63, none, .mov (.t 10)⟩,
       ⟨some 64, none, .mov (.t 1)⟩,
       ⟨some 65, none, .mov (.t 2)⟩,
       ⟨some 66, none, .iaddr 1 (.t 63) (.t 64)⟩,
       ⟨none, none, .store 1 (.t 66) (.t 65)⟩] false [])
      (.keep [1, 7, 10] (.seq
       (.region [⟨some 68, none, .mov (.t 10)⟩,
        ⟨some 69, none, .call 32 [.t 68]⟩,
        ⟨some 67, none, .mov (.t 69)⟩,
        ⟨some 70, none, .extract 0 (.t 67)⟩,
        ⟨some 71, none, .extract 1 (.t 67)⟩,
        ⟨some 72, none, .extract 2 (.t 67)⟩,
        ⟨some 12, none, .mov (.t 70)⟩,
        ⟨some 13, none, .mov (.t 71)⟩,
        ⟨some 14, none, .mov (.t 72)⟩] false [])
       (.keep [1, 7, 12, 13, 14] (.seq
       (.seq
        (.region [⟨some 73, none, .mov (.t 14)⟩,
         ⟨some 74, none, .call 12 [.t 73]⟩,
         ⟨some 75, none, .bin .eql (.t 74) (.c (.d (.i .i64 0)))⟩] false [])
        (.keep [1, 7, 12, 13, 75] (.cond (.t 75)
        (.keep [7, 12] (.seq
         (.region [⟨some 76, none, .mov (.t 7)⟩,
          ⟨some 77, none, .mov (.t 12)⟩,
          ⟨some 78, none, .call 33 [.t 76, .t 77]⟩,
          ⟨some 79, none, .un .not (.t 78)⟩,
          ⟨some 6, none, .mov (.t 79)⟩] false [])
         (.ret)))
        (.skip))))
       (.keep [1, 12, 13] (.seq
        (.region [⟨some 80, none, .mov (.t 12)⟩,
         ⟨some 81, none, .len false (.t 80)⟩,
         ⟨some 82, none, .bin .eql (.t 81) (.c (.d (.i .i64 0)))⟩,
         ⟨some 83, none, .mov (.t 82)⟩,
         ⟨some 84, (some (3, true)), .mov (.t 13)⟩,
         ⟨some 85, (some (3, true)), .bin .quo (.t 84) (.c (.d (.i .i64 24)))⟩,
         ⟨some 86, (some (3, true)), .mov (.t 1)⟩,
         ⟨some 87, (some (3, true)), .bin .quo (.t 86) (.c (.d (.i .i64 24)))⟩,
         ⟨some 88, (some (3, true)), .bin .eql (.t 85) (.t 87)⟩,
         ⟨some 89, (some (3, true)), .mov (.t 88)⟩,
         ⟨some 90, (some (9, false)), .mov (.t 13)⟩,
         ⟨some 91, (some (9, false)), .bin .quo (.t 90) (.c (.d (.i .i64 24)))⟩,
         ⟨some 92, (some (9, false)), .mov (.t 1)⟩,
         ⟨some 93, (some (9, false)), .bin .quo (.t 92) (.c (.d (.i .i64 24)))⟩,
         ⟨some 94, (some (9, false)), .bin .add (.t 93) (.c (.d (.i .i64 1)))⟩,
         ⟨some 95, (some (9, false)), .bin .eql (.t 91) (.t 94)⟩,
         ⟨some 96, (some (3, true)), .pick (.t 89) (.c (.d (.b true))) (.t 95)⟩,
         ⟨some 97, none, .pick (.t 83) (.t 96) (.c (.d (.b false)))⟩,
         ⟨some 6, none, .mov (.t 97)⟩] false [])
        (.ret)))))))))))))))))))))⟩

/-- spindle/spindlelaw10.writes -/
def F120_spindlelaw10_writes : SFn := ⟨3, false, false, [.tmp 6],
  .seq
   (.region [⟨some 6, none, .mov (.c (.d (.b false)))⟩] false [])
   (.keep [0, 1, 2] (.seq
   (.region [⟨some 12, none, .mov (.t 1)⟩,
    ⟨some 13, none, .mov (.t 0)⟩,
    ⟨some 14, none, .call 124 [.t 12, .t 13]⟩,
    ⟨some 7, none, .mov (.t 14)⟩] false [])
   (.keep [0, 1, 2, 7] (.seq
    (.region [⟨some 16, none, .mov (.t 0)⟩,
     ⟨some 17, none, .call 41 [.t 16]⟩,
     ⟨some 15, none, .mov (.t 17)⟩,
     ⟨some 18, none, .extract 0 (.t 15)⟩,
     ⟨some 19, none, .extract 1 (.t 15)⟩,
     ⟨some 8, none, .mov (.t 18)⟩,
     ⟨some 9, none, .mov (.t 19)⟩] false [])
    (.keep [0, 1, 2, 7, 8, 9] (.seq
    (.region [⟨some 21, none, .mov (.t 7)⟩,
     ⟨some 22, none, .call 31 [.t 21]⟩,
     ⟨some 20, none, .mov (.t 22)⟩,
     ⟨some 23, none, .extract 0 (.t 20)⟩,
     ⟨some 24, none, .extract 1 (.t 20)⟩,
     ⟨some 10, none, .mov (.t 23)⟩,
     ⟨some 11, none, .mov (.t 24)⟩] false [])
    (.keep [0, 1, 2, 8, 9, 10, 11] (.seq
     (.seq
     (.region [⟨some 25, none, .mov (.t 11)⟩,
      ⟨some 26, none, .call 12 [.t 25]⟩,
      ⟨some 27, none, .mov (.t 9)⟩,
      ⟨some 28, none, .bin .neq (.t 26) (.t 27)⟩,
      ⟨some 29, none, .mov (.t 28)⟩,
      ⟨some 30, (some (4, false)), .mov (.t 10)⟩,
      ⟨some 31, (some (4, false)), .b2s (.t 30)⟩,
      ⟨some 32, (some (4, false)), .mov (.t 8)⟩,
      ⟨some 33, (some (4, false)), .b2s (.t 32)⟩,
      ⟨some 34, (some (4, false)), .bin .neq (.t 31) (.t 33)⟩,
      ⟨some 35, none, .pick (.t 29) (.c (.d (.b true))) (.t 34)⟩,
      ⟨some 36, none, .mov (.t 35)⟩,
      ⟨some 37, (some (11, false)), .mov (.t 1)⟩,
      ⟨some 38, (some (11, false)), .mov (.t 0)⟩,
      ⟨some 39, (some (11, false)), .call 125 [.t 37, .t 38]⟩,
      ⟨some 40, (some (11, false)), .un .not (.t 39)⟩,
      ⟨some 41, none, .pick (.t 36) (.c (.d (.b true))) (.t 40)⟩] false [])
     (.keep [0, 1, 2, 10, 41] (.cond (.t 41)
      (.keep [] (.seq
      (.region [⟨some 6, none, .mov (.c (.d (.b false)))⟩] false [])
      (.ret)))
      (.skip))))
     (.keep [0, 1, 2, 10] (.seq
     (.region [⟨some 42, none, .mov (.t 2)⟩,
      ⟨some 43, none, .mov (.t 10)⟩,
      ⟨some 44, none, .mov (.t 0)⟩,
      ⟨some 45, none, .len false (.t 44)⟩,
      ⟨some 46, none, .call 126 [.t 42, .t 43, .t 45]⟩] false [])
     (.keep [0, 1, 2] (.seq
      (.region [⟨some 47, none, .mov (.t 2)⟩,
       ⟨some 48, none, .call 123 [.t 47]⟩,
       ⟨some 49, none, .mov (.t 48)⟩,
       ⟨some 50, (some (2, true)), .mov (.t 1)⟩,
       ⟨some 51, (some (2, true)), .mov (.t 0)⟩,
       ⟨some 52, (some (2, true)), .call 125 [.t 50, .t 51]⟩,
       ⟨some 53, none, .pick (.t 49) (.t 52) (.c (.d (.b false)))⟩,
       ⟨some 6, none, .mov (.t 53)⟩] false [])
      (.ret)))))))))))))⟩

/-- spindle/spindlelaw10.turned -/
def F121_spindlelaw10_turned : SFn := ⟨1, true, true, [.tmp 2],
  .seq
   (.region [⟨some 2, none, .mov (.c (.d (.sl 0 false [])))⟩] false [])
   (.keep [0] (.seq
   (.region [⟨some 4, none, .litsR 0 [.i .i64 0, .i .i64 0, .i .i64 0, .i .i64 0, .i .i64 0, .i .i64 0] []⟩,
    ⟨some 5, none, .mov (.t 0)⟩,
    ⟨some 6, none, .appR 6 48 [.i .i64 0, .i .i64 0, .i .i64 0, .i .i64 0, .i .i64 0, .i .i64 0] (.t 4) (.t 5)⟩,
    ⟨some 3, none, .mov (.t 6)⟩] false [])
   (.keep [3] (.seq
    (.seq
    (.region [⟨some 7, none, .mov (.t 3)⟩,
     ⟨some 8, none, .len false (.t 7)⟩,
     ⟨some 9, none, .bin .gtr (.t 8) (.c (.d (.i .i64 0)))⟩] false [])
    (.keep [3, 9] (.cond (.t 9)
     (.keep [3] (.region [⟨some 10, none, .mov (.t 3)⟩,
      ⟨some 11, none, .mov (.t 3)⟩,
      ⟨some 12, none, .len false (.t 11)⟩,
      ⟨some 13, none, .bin .quo (.t 12) (.c (.d (.i .i64 2)))⟩,
      ⟨some 14, none, .mov (.t 3)⟩,
      ⟨some 15, none, .mov (.t 3)⟩,
      ⟨some 16, none, .len false (.t 15)⟩,
      ⟨some 17, none, .bin .quo (.t 16) (.c (.d (.i .i64 2)))⟩,
      ⟨some 18, none, .iaddr 6 (.t 14) (.t 17)⟩,
      ⟨some 19, none, .faddr 4 (.t 18)⟩,
      ⟨some 20, none, .load 1 false (.t 19)⟩,
      ⟨some 21, none, .bin .xor (.t 20) (.c (.d (.i .i64 8)))⟩,
      ⟨some 22, none, .iaddr 6 (.t 10) (.t 13)⟩,
      ⟨some 23, none, .faddr 4 (.t 22)⟩,
      ⟨none, none, .store 1 (.t 23) (.t 21)⟩] false []))
     (.skip))))
    (.keep [3] (.seq
    (.region [⟨some 24, none, .mov (.t 3)⟩,
     ⟨some 2, none, .mov (.t 24)⟩] false [])
    (.ret)))))))⟩

def F122_spindlelaw10_SymtabWrites_b0 : SCode :=
  .seq
       (.seq
       (.region [⟨some 12, none, .mov (.t 5)⟩,
        ⟨some 13, none, .mov (.t 0)⟩,
        ⟨some 14, none, .len false (.t 13)⟩,
        ⟨some 15, none, .bin .lss (.t 12) (.t 14)⟩] false [])
       (.keep [0, 3, 4, 5, 15] (.cond (.t 15)
        (.skip)
        (.exit 0))))
       (.keep [0, 3, 4, 5] (.seq
       (.block 1 (.seq
        (.region [⟨some 18, none, .mov (.t 0)⟩,
         ⟨some 19, none, .mov (.t 5)⟩,
         ⟨some 20, none, .iaddr 1 (.t 18) (.t 19)⟩,
         ⟨some 21, none, .load 1 false (.t 20)⟩,
         ⟨some 22, none, .mov (.t 3)⟩,
         ⟨some 23, none, .mov (.t 4)⟩,
         ⟨some 24, none, .call 120 [.t 21, .t 22, .t 23]⟩,
         ⟨some 25, none, .un .not (.t 24)⟩,
         ⟨some 26, none, .mov (.t 25)⟩,
         ⟨some 27, (some (8, false)), .mov (.t 0)⟩,
         ⟨some 28, (some (8, false)), .mov (.t 5)⟩,
         ⟨some 29, (some (8, false)), .iaddr 1 (.t 27) (.t 28)⟩,
         ⟨some 30, (some (8, false)), .load 1 false (.t 29)⟩,
         ⟨some 31, (some (8, false)), .mov (.t 3)⟩,
         ⟨some 32, (some (8, false)), .mov (.t 4)⟩,
         ⟨some 33, (some (8, false)), .call 120 [.t 30, .t 31, .t 32]⟩,
         ⟨some 34, (some (8, false)), .un .not (.t 33)⟩,
         ⟨some 35, none, .pick (.t 26) (.c (.d (.b true))) (.t 34)⟩,
         ⟨some 36, none, .mov (.t 35)⟩,
         ⟨some 37, (some (18, false)), .mov (.t 0)⟩,
         ⟨some 38, (some (18, false)), .mov (.t 5)⟩,
         ⟨some 39, (some (18, false)), .iaddr 1 (.t 37) (.t 38)⟩,
         ⟨some 40, (some (18, false)), .load 1 false (.t 39)⟩,
         ⟨some 41, (some (18, false)), .call 121 [.t 40]⟩,
         ⟨some 42, (some (18, false)), .mov (.t 3)⟩,
         ⟨some 43, (some (18, false)), .mov (.t 4)⟩,
         ⟨some 44, (some (18, false)), .call 120 [.t 41, .t 42, .t 43]⟩,
         ⟨some 45, (some (18, false)), .un .not (.t 44)⟩,
         ⟨some 46, none, .pick (.t 36) (.c (.d (.b true))) (.t 45)⟩,
         ⟨some 47, none, .mov (.t 46)⟩,
         ⟨some 48, (some (29, false)), .mov (.t 0)⟩,
         ⟨some 49, (some (29, false)), .mov (.t 5)⟩,
         ⟨some 50, (some (29, false)), .iaddr 1 (.t 48) (.t 49)⟩,
         ⟨some 51, (some (29, false)), .load 1 false (.t 50)⟩,
         ⟨some 52, (some (29, false)), .mov (.t 3)⟩,
         ⟨some 53, (some (29, false)), .mov (.t 4)⟩,
         ⟨some 54, (some (29, false)), .call 120 [.t 51, .t 52, .t 53]⟩,
         ⟨some 55, (some (29, false)), .un .not (.t 54)⟩,
         ⟨some 56, none, .pick (.t 47) (.c (.d (.b true))) (.t 55)⟩] false [])
        (.keep [0, 3, 4, 5, 56] (.cond (.t 56)
         (.keep [] (.seq
         (.region [⟨some 2, none, .mov (.c (.d (.b false)))⟩] false [])
         (.ret)))
         (.skip)))))
       (.keep [0, 3, 4, 5] (.region [⟨some 16, none, .mov (.t 5)⟩,
        ⟨some 17, none, .bin .add (.t 16) (.c (.d (.i .i64 1)))⟩,
        ⟨some 5, none, .mov (.t 17)⟩] false []))))
/-- spindle/spindlelaw10.SymtabWrites -/
def F122_spindlelaw10_SymtabWrites : SFn := ⟨1, true, true, [.tmp 2],
  .seq
   (.region [⟨some 2, none, .mov (.c (.d (.b false)))⟩] false [])
   (.keep [0] (.seq
   (.seq
    (.region [⟨some 6, none, .call 30 []⟩,
     ⟨some 7, none, .un .not (.t 6)⟩] false [])
    (.keep [0, 7] (.cond (.t 7)
    (.keep [] (.seq
     (.region [⟨some 2, none, .mov (.c (.d (.b false)))⟩] false [])
     (.ret)))
    (.skip))))
   (.keep [0] (.seq
    (.region [⟨some 8, none, .build [.sl 0 false []] []⟩,
     ⟨some 9, none, .box (.t 8)⟩,
     ⟨some 3, none, .mov (.t 9)⟩] false [])
    (.keep [0, 3] (.seq
    (.region [⟨some 10, none, .build [.i .i64 0, .i .i64 0, .b false, .sl 0 false [], .sl 0 false [], .sl 0 false [], .sl 0 false [], .sl 0 false []] []⟩,
     ⟨some 11, none, .box (.t 10)⟩,
     ⟨some 4, none, .mov (.t 11)⟩] false [])
    (.keep [0, 3, 4] (.seq
     (.seq
     (.region [⟨some 5, none, .mov (.c (.d (.i .i64 0)))⟩] false [])
     (.keep [0, 3, 4, 5] (.block 0 (.loop [0, 3, 4, 5] false F122_spindlelaw10_SymtabWrites_b0))))
     (.keep [4] (.seq
     (.region [⟨some 57, none, .mov (.t 4)⟩,
      ⟨some 58, none, .call 123 [.t 57]⟩,
      ⟨some 2, none, .mov (.t 58)⟩] false [])
     (.ret)))))))))))⟩

def F124_spindlelaw10_Desk_Lend_b0 : SCode :=
  .seq
      (.seq
      (.region [⟨some 24, none, .mov (.t 5)⟩,
       ⟨some 25, none, .mov (.t 1)⟩,
       ⟨some 26, none, .len false (.t 25)⟩,
       ⟨some 27, none, .bin .mul (.c (.d (.i .i64 2))) (.t 26)⟩,
       ⟨some 28, none, .bin .add (.t 27) (.c (.d (.i .i64 70)))⟩,
       ⟨some 29, none, .bin .lss (.t 24) (.t 28)⟩] false [])
      (.keep [0, 1, 5, 29] (.cond (.t 29)
       (.skip)
       (.exit 0))))
      (.keep [0, 1, 5] (.seq
      (.block 1 (.seq
       (.region [⟨some 32, none, .mov (.t 0)⟩,
        ⟨some 33, none, .nilChk (.t 32)⟩,
        ⟨some 34, none, .faddr 0 (.t 33)⟩,
        ⟨some 35, none, .load 1 false (.t 34)⟩,
        ⟨some 36, none, .mov (.t 5)⟩,
        ⟨some 37, none, .mov (.t 5)⟩,
        ⟨some 38, none, .call 129 [.t 37]⟩,
        ⟨some 39, none, .iaddr 6 (.t 35) (.t 36)⟩,
        ⟨none, none, .store 6 (.t 39) (.t 38)⟩] true [0, 1, 3, 7, 0, 0, 32, 127, 255])
       (.keep [0, 1, 5] (.seq
        (.region [⟨some 40, none, .mov (.t 5)⟩,
         ⟨some 41, none, .mov (.t 1)⟩,
         ⟨some 42, none, .len false (.t 41)⟩,
         ⟨some 43, none, .bin .lss (.t 40) (.t 42)⟩] false [])
        (.keep [0, 1, 5, 43] (.cond (.t 43)
        (.keep [0, 1, 5] (.region [⟨some 44, none, .mov (.t 0)⟩,
         ⟨some 45, none, .nilChk (.t 44)⟩,
         ⟨some 46, none, .faddr 0 (.t 45)⟩,
         ⟨some 47, none, .load 1 false (.t 46)⟩,
         ⟨some 48, none, .mov (.t 5)⟩,
         ⟨some 49, none, .mov (.t 1)⟩,
         ⟨some 50, none, .mov (.t 5)⟩,
         ⟨some 51, none, .iaddr 6 (.t 49) (.t 50)⟩,
         ⟨some 52, none, .load 6 true (.t 51)⟩,
         ⟨some 53, none, .iaddr 6 (.t 47) (.t 48)⟩,
         ⟨none, none, .store 6 (.t 53) (.t 52)⟩] true [0, 1, 3, 7, 0, 0, 0, 96, 224, 511, 1023]))
        (.skip)))))))
      (.keep [0, 1, 5] (.region [⟨some 30, none, .mov (.t 5)⟩,
       ⟨some 31, none, .bin .add (.t 30) (.c (.d (.i .i64 1)))⟩,
       ⟨some 5, none, .mov (.t 31)⟩] false []))))
/-- (*spindle/spindlelaw10.Desk).Lend -/
def F124_spindlelaw10_Desk_Lend : SFn := ⟨2, false, false, [.tmp 4],
  .seq
   (.region [⟨some 4, none, .mov (.c (.d (.sl 0 false [])))⟩] false [])
   (.keep [0, 1] (.seq
   (.seq
    (.region [⟨some 6, none, .mov (.t 0)⟩,
     ⟨some 7, none, .nilChk (.t 6)⟩,
     ⟨some 8, none, .faddr 0 (.t 7)⟩,
     ⟨some 9, none, .load 1 false (.t 8)⟩,
     ⟨some 10, none, .len false (.t 9)⟩,
     ⟨some 11, none, .mov (.t 1)⟩,
     ⟨some 12, none, .len false (.t 11)⟩,
     ⟨some 13, none, .bin .mul (.c (.d (.i .i64 2))) (.t 12)⟩,
     ⟨some 14, none, .bin .add (.t 13) (.c (.d (.i .i64 70)))⟩,
     ⟨some 15, none, .bin .lss (.t 10) (.t 14)⟩] false [])
    (.keep [0, 1, 15] (.cond (.t 15)
    (.keep [0, 1] (.region [⟨some 16, none, .mov (.t 0)⟩,
     ⟨some 17, none, .mov (.t 1)⟩,
     ⟨some 18, none, .len false (.t 17)⟩,
     ⟨some 19, none, .bin .mul (.c (.d (.i .i64 4))) (.t 18)⟩,
     ⟨some 20, none, .bin .add (.t 19) (.c (.d (.i .i64 200)))⟩,
     ⟨some 21, none, .mkR 48 [.i .i64 0, .i .i64 0, .i .i64 0, .i .i64 0, .i .i64 0, .i .i64 0] (.t 20) (.t 20)⟩,
     ⟨some 22, none, .nilChk (.t 16)⟩,
     ⟨some 23, none, .faddr 0 (.t 22)⟩,
     ⟨none, none, .store 1 (.t 23) (.t 21)⟩] false []))
    (.skip))))
   (.keep [0, 1] (.seq
    (.seq
    (.region [⟨some 5, none, .mov (.c (.d (.i .i64 0)))⟩] false [])
    (.keep [0, 1, 5] (.block 0 (.loop [0, 1, 5] false F124_spindlelaw10_Desk_Lend_b0))))
    (.keep [0, 1] (.seq
    (.region [⟨some 54, none, .mov (.t 0)⟩,
     ⟨some 55, none, .nilChk (.t 54)⟩,
     ⟨some 56, none, .faddr 0 (.t 55)⟩,
     ⟨some 57, none, .load 1 false (.t 56)⟩,
     ⟨some 58, none, .mov (.t 1)⟩,
     ⟨some 59, none, .len false (.t 58)⟩,
     ⟨some 60, none, .mov (.t 1)⟩,
     ⟨some 61, none, .len false (.t 60)⟩,
     ⟨some 62, none, .bin .mul (.c (.d (.i .i64 2))) (.t 61)⟩,
     ⟨some 63, none, .bin .add (.t 62) (.c (.d (.i .i64 70)))⟩,
     ⟨some 64, none, .slc 6 (.t 57) none (some (.t 59)) (some (.t 63))⟩,
     ⟨some 4, none, .mov (.t 64)⟩] false [])
    (.ret)))))))⟩

def F125_spindlelaw10_Desk_Back_b0 : SCode :=
  .seq
     (.seq
      (.region [⟨some 6, none, .mov (.t 5)⟩,
       ⟨some 7, none, .mov (.t 1)⟩,
       ⟨some 8, none, .len false (.t 7)⟩,
       ⟨some 9, none, .bin .mul (.c (.d (.i .i64 2))) (.t 8)⟩,
       ⟨some 10, none, .bin .add (.t 9) (.c (.d (.i .i64 70)))⟩,
       ⟨some 11, none, .bin .lss (.t 6) (.t 10)⟩] false [])
      (.keep [0, 1, 5, 11] (.cond (.t 11)
      (.skip)
      (.exit 0))))
     (.keep [0, 1, 5] (.seq
      (.block 1 (.seq
       (.region [⟨some 14, none, .mov (.t 5)⟩,
        ⟨some 15, none, .mov (.t 1)⟩,
        ⟨some 16, none, .len false (.t 15)⟩,
        ⟨some 17, none, .bin .lss (.t 14) (.t 16)⟩,
        ⟨some 18, none, .mov (.t 17)⟩,
        ⟨some 19, (some (4, true)), .mov (.t 0)⟩,
        ⟨some 20, (some (4, true)), .nilChk (.t 19)⟩,
        ⟨some 21, (some (4, true)), .faddr 0 (.t 20)⟩,
        ⟨some 22, (some (4, true)), .load 1 false (.t 21)⟩,
        ⟨some 23, (some (4, true)), .mov (.t 5)⟩,
        ⟨some 24, (some (4, true)), .iaddr 6 (.t 22) (.t 23)⟩,
        ⟨some 25, (some (4, true)), .load 6 true (.t 24)⟩,
        ⟨some 26, (some (4, true)), .mov (.t 1)⟩,
        ⟨some 27, (some (4, true)), .mov (.t 5)⟩,
        ⟨some 28, (some (4, true)), .iaddr 6 (.t 26) (.t 27)⟩,
        ⟨some 29, (some (4, true)), .load 6 true (.t 28)⟩,
        ⟨some 30, (some (4, true)), .eqv true [9, 0, 0, 0, 0, 0, 0] (.t 25) (.t 29)⟩,
        ⟨some 31, none, .pick (.t 18) (.t 30) (.c (.d (.b false)))⟩,
        ⟨some 32, none, .mov (.t 31)⟩,
        ⟨some 33, (some (18, false)), .mov (.t 5)⟩,
        ⟨some 34, (some (18, false)), .mov (.t 1)⟩,
        ⟨some 35, (some (18, false)), .len false (.t 34)⟩,
        ⟨some 36, (some (18, false)), .bin .geq (.t 33) (.t 35)⟩,
        ⟨some 37, (some (18, false)), .mov (.t 36)⟩,
        ⟨some 38, (some (23, true)), .mov (.t 0)⟩,
        ⟨some 39, (some (23, true)), .nilChk (.t 38)⟩,
        ⟨some 40, (some (23, true)), .faddr 0 (.t 39)⟩,
        ⟨some 41, (some (23, true)), .load 1 false (.t 40)⟩,
        ⟨some 42, (some (23, true)), .mov (.t 5)⟩,
        ⟨some 43, (some (23, true)), .iaddr 6 (.t 41) (.t 42)⟩,
        ⟨some 44, (some (23, true)), .load 6 true (.t 43)⟩,
        ⟨some 45, (some (23, true)), .mov (.t 5)⟩,
        ⟨some 46, (some (23, true)), .call 129 [.t 45]⟩,
        ⟨some 47, (some (23, true)), .eqv true [9, 0, 0, 0, 0, 0, 0] (.t 44) (.t 46)⟩,
        ⟨some 48, (some (18, false)), .pick (.t 37) (.t 47) (.c (.d (.b false)))⟩,
        ⟨some 49, none, .pick (.t 32) (.c (.d (.b true))) (.t 48)⟩] true [0, 0, 2, 7, 15, 31, 63, 127, 255, 31, 1023, 2047, 31, 31, 12319, 28703, 65535, 131071, 262143, 524287, 524287, 1572863, 4194303, 8388607, 16777215, 33554431, 67108863, 134217727, 16777215, 536870911, 1073741823, 16777215, 2164260863, 8589934591, 17179869183, 34359738367])
       (.keep [0, 1, 5, 49] (.cond (.t 49)
       (.keep [] (.seq
        (.region [⟨some 4, none, .mov (.c (.d (.b false)))⟩] false [])
        (.ret)))
       (.skip)))))
      (.keep [0, 1, 5] (.region [⟨some 12, none, .mov (.t 5)⟩,
       ⟨some 13, none, .bin .add (.t 12) (.c (.d (.i .i64 1)))⟩,
       ⟨some 5, none, .mov (.t 13)⟩] false []))))
/-- (*spindle/spindlelaw10.Desk).Back -/
def F125_spindlelaw10_Desk_Back : SFn := ⟨2, false, false, [.tmp 4],
  .seq
   (.region [⟨some 4, none, .mov (.c (.d (.b false)))⟩] false [])
   (.keep [0, 1] (.seq
   (.seq
    (.region [⟨some 5, none, .mov (.c (.d (.i .i64 0)))⟩] false [])
    (.keep [0, 1, 5] (.block 0 (.loop [0, 1, 5] false F125_spindlelaw10_Desk_Back_b0))))
   (.keep [] (.seq
    (.region [⟨some 4, none, .mov (.c (.d (.b true)))⟩] false [])
    (.ret)))))⟩

/-- spindle/spindlelaw10.behind -/
def F129_spindlelaw10_behind : SFn := ⟨1, true, true, [.cell 2 6 true],
  .seq
   (.region [⟨some 2, none, .alloc [.i .i64 0, .i .i64 0, .i .i64 0, .i .i64 0, .i .i64 0, .i .i64 0]⟩] false [])
   (.keep [0, 2] (.seq
   (.region [⟨some 3, none, .mov (.t 0)⟩,
    ⟨some 4, none, .bin .sub (.c (.d (.i .i64 (-9)))) (.t 3)⟩,
    ⟨some 5, none, .mov (.t 0)⟩,
    ⟨some 6, none, .bin .mul (.c (.d (.i .i64 3))) (.t 5)⟩,
    ⟨some 7, none, .build [.i .i64 0, .i .i64 0, .i .i64 0, .i .i64 0, .i .i64 0, .i .i64 0] [(0, 1, .t 4), (4, 1, .t 6)]⟩,
    ⟨none, none, .store 6 (.t 2) (.t 7)⟩] false [])
   (.ret)))⟩
end Go.Sh
