/- Shadow functions of ref10, written by tr.py. -/
import Derived.Test.YtnemobbnlacmjaaShBa
namespace Go.Sh
/-- spindle/spindleref10.Sort -/
def F38_spindleref10_Sort : SFn := ⟨1, true, true, [.tmp 2],
  .seq
   (.region [⟨some 1, none, .box (.t 0)⟩,
    ⟨some 2, none, .mov (.c (.d (.i .i64 0)))⟩] false [])
   (.keep [1] (.seq
   (.seq
    (.region [⟨some 4, none, .faddr 0 (.t 1)⟩,
     ⟨some 5, none, .load 1 false (.t 4)⟩,
     ⟨some 6, none, .bin .lss (.t 5) (.c (.d (.i .i64 0)))⟩,
     ⟨some 7, none, .mov (.t 6)⟩,
     ⟨some 8, (some (3, false)), .faddr 0 (.t 1)⟩,
     ⟨some 9, (some (3, false)), .load 1 false (.t 8)⟩,
     ⟨some 10, (some (3, false)), .bin .gtr (.t 9) (.c (.d (.i .i64 4294967295)))⟩,
     ⟨some 11, none, .pick (.t 7) (.c (.d (.b true))) (.t 10)⟩] false [])
    (.keep [1, 11] (.cond (.t 11)
    (.keep [] (.seq
     (.region [⟨some 2, none, .mov (.c (.d (.i .i64 0)))⟩] false [])
     (.ret)))
    (.skip))))
   (.keep [1] (.seq
    (.region [⟨some 12, none, .faddr 2 (.t 1)⟩,
     ⟨some 13, none, .load 1 false (.t 12)⟩,
     ⟨some 14, none, .bin .eql (.t 13) (.c (.d (.i .i64 2)))⟩,
     ⟨some 15, none, .mov (.t 14)⟩,
     ⟨some 16, (some (3, true)), .faddr 3 (.t 1)⟩,
     ⟨some 17, (some (3, true)), .load 1 false (.t 16)⟩,
     ⟨some 18, (some (3, true)), .bin .eql (.t 17) (.c (.d (.i .i64 1)))⟩,
     ⟨some 19, none, .pick (.t 15) (.t 18) (.c (.d (.b false)))⟩,
     ⟨some 20, none, .mov (.t 19)⟩,
     ⟨some 21, (some (8, true)), .faddr 4 (.t 1)⟩,
     ⟨some 22, (some (8, true)), .load 1 false (.t 21)⟩,
     ⟨some 23, (some (8, true)), .bin .geq (.t 22) (.c (.d (.i .i64 0)))⟩,
     ⟨some 24, none, .pick (.t 20) (.t 23) (.c (.d (.b false)))⟩,
     ⟨some 25, none, .mov (.t 24)⟩,
     ⟨some 26, (some (13, true)), .faddr 4 (.t 1)⟩,
     ⟨some 27, (some (13, true)), .load 1 false (.t 26)⟩,
     ⟨some 28, (some (13, true)), .bin .rem (.t 27) (.c (.d (.i .i64 8)))⟩,
     ⟨some 29, (some (13, true)), .bin .eql (.t 28) (.c (.d (.i .i64 0)))⟩,
     ⟨some 30, none, .pick (.t 25) (.t 29) (.c (.d (.b false)))⟩,
     ⟨some 31, none, .mov (.t 30)⟩,
     ⟨some 32, (some (19, true)), .faddr 5 (.t 1)⟩,
     ⟨some 33, (some (19, true)), .load 1 false (.t 32)⟩,
     ⟨some 34, (some (19, true)), .bin .gtr (.t 33) (.c (.d (.i .i64 0)))⟩,
     ⟨some 35, none, .pick (.t 31) (.t 34) (.c (.d (.b false)))⟩,
     ⟨some 36, none, .mov (.t 35)⟩,
     ⟨some 37, (some (24, true)), .faddr 5 (.t 1)⟩,
     ⟨some 38, (some (24, true)), .load 1 false (.t 37)⟩,
     ⟨some 39, (some (24, true)), .bin .rem (.t 38) (.c (.d (.i .i64 8)))⟩,
     ⟨some 40, (some (24, true)), .bin .eql (.t 39) (.c (.d (.i .i64 0)))⟩,
     ⟨some 41, none, .pick (.t 36) (.t 40) (.c (.d (.b false)))⟩,
     ⟨some 3, none, .mov (.t 41)⟩] false [])
    (.keep [1, 3] (.seq
    (.seq
     (.region [⟨some 42, none, .faddr 1 (.t 1)⟩,
      ⟨some 43, none, .load 1 false (.t 42)⟩,
      ⟨some 44, none, .bin .eql (.t 43) (.c (.d (.i .i64 0)))⟩,
      ⟨some 45, none, .mov (.t 44)⟩,
      ⟨some 46, (some (3, true)), .mov (.t 3)⟩,
      ⟨some 47, none, .pick (.t 45) (.t 46) (.c (.d (.b false)))⟩] false [])
     (.keep [1, 3, 47] (.cond (.t 47)
     (.keep [] (.seq
      (.region [⟨some 2, none, .mov (.c (.d (.i .i64 1)))⟩] false [])
      (.ret)))
     (.skip))))
    (.keep [1, 3] (.seq
     (.seq
     (.region [⟨some 48, none, .faddr 1 (.t 1)⟩,
      ⟨some 49, none, .load 1 false (.t 48)⟩,
      ⟨some 50, none, .bin .eql (.t 49) (.c (.d (.i .i64 0)))⟩,
      ⟨some 51, none, .mov (.t 50)⟩,
      ⟨some 52, (some (3, true)), .faddr 2 (.t 1)⟩,
      ⟨some 53, (some (3, true)), .load 1 false (.t 52)⟩,
      ⟨some 54, (some (3, true)), .bin .eql (.t 53) (.c (.d (.i .i64 1)))⟩,
      ⟨some 55, none, .pick (.t 51) (.t 54) (.c (.d (.b false)))⟩,
      ⟨some 56, none, .mov (.t 55)⟩,
      ⟨some 57, (some (8, true)), .faddr 3 (.t 1)⟩,
      ⟨some 58, (some (8, true)), .load 1 false (.t 57)⟩,
      ⟨some 59, (some (8, true)), .bin .eql (.t 58) (.c (.d (.i .i64 2)))⟩,
      ⟨some 60, none, .pick (.t 56) (.t 59) (.c (.d (.b false)))⟩,
      ⟨some 61, none, .mov (.t 60)⟩,
      ⟨some 62, (some (13, true)), .faddr 4 (.t 1)⟩,
      ⟨some 63, (some (13, true)), .load 1 false (.t 62)⟩,
      ⟨some 64, (some (13, true)), .bin .geq (.t 63) (.c (.d (.i .i64 0)))⟩,
      ⟨some 65, none, .pick (.t 61) (.t 64) (.c (.d (.b false)))⟩,
      ⟨some 66, none, .mov (.t 65)⟩,
      ⟨some 67, (some (18, true)), .faddr 4 (.t 1)⟩,
      ⟨some 68, (some (18, true)), .load 1 false (.t 67)⟩,
      ⟨some 69, (some (18, true)), .bin .rem (.t 68) (.c (.d (.i .i64 16)))⟩,
      ⟨some 70, (some (18, true)), .bin .eql (.t 69) (.c (.d (.i .i64 0)))⟩,
      ⟨some 71, none, .pick (.t 66) (.t 70) (.c (.d (.b false)))⟩,
      ⟨some 72, none, .mov (.t 71)⟩,
      ⟨some 73, (some (24, true)), .faddr 5 (.t 1)⟩,
      ⟨some 74, (some (24, true)), .load 1 false (.t 73)⟩,
      ⟨some 75, (some (24, true)), .bin .eql (.t 74) (.c (.d (.i .i64 16)))⟩,
      ⟨some 76, none, .pick (.t 72) (.t 75) (.c (.d (.b false)))⟩] false [])
     (.keep [1, 3, 76] (.cond (.t 76)
      (.keep [] (.seq
      (.region [⟨some 2, none, .mov (.c (.d (.i .i64 2)))⟩] false [])
      (.ret)))
      (.skip))))
     (.keep [1, 3] (.seq
     (.seq
      (.region [⟨some 77, none, .faddr 1 (.t 1)⟩,
       ⟨some 78, none, .load 1 false (.t 77)⟩,
       ⟨some 79, none, .bin .eql (.t 78) (.c (.d (.i .i64 1)))⟩,
       ⟨some 80, none, .mov (.t 79)⟩,
       ⟨some 81, (some (3, true)), .mov (.t 3)⟩,
       ⟨some 82, none, .pick (.t 80) (.t 81) (.c (.d (.b false)))⟩] false [])
      (.keep [1, 82] (.cond (.t 82)
      (.keep [] (.seq
       (.region [⟨some 2, none, .mov (.c (.d (.i .i64 3)))⟩] false [])
       (.ret)))
      (.skip))))
     (.keep [1] (.seq
      (.seq
      (.region [⟨some 83, none, .faddr 1 (.t 1)⟩,
       ⟨some 84, none, .load 1 false (.t 83)⟩,
       ⟨some 85, none, .bin .eql (.t 84) (.c (.d (.i .i64 1)))⟩,
       ⟨some 86, none, .mov (.t 85)⟩,
       ⟨some 87, (some (3, true)), .faddr 2 (.t 1)⟩,
       ⟨some 88, (some (3, true)), .load 1 false (.t 87)⟩,
       ⟨some 89, (some (3, true)), .bin .eql (.t 88) (.c (.d (.i .i64 0)))⟩,
       ⟨some 90, none, .pick (.t 86) (.t 89) (.c (.d (.b false)))⟩,
       ⟨some 91, none, .mov (.t 90)⟩,
       ⟨some 92, (some (8, true)), .faddr 3 (.t 1)⟩,
       ⟨some 93, (some (8, true)), .load 1 false (.t 92)⟩,
       ⟨some 94, (some (8, true)), .bin .eql (.t 93) (.c (.d (.i .i64 0)))⟩,
       ⟨some 95, none, .pick (.t 91) (.t 94) (.c (.d (.b false)))⟩,
       ⟨some 96, none, .mov (.t 95)⟩,
       ⟨some 97, (some (13, true)), .faddr 4 (.t 1)⟩,
       ⟨some 98, (some (13, true)), .load 1 false (.t 97)⟩,
       ⟨some 99, (some (13, true)), .bin .eql (.t 98) (.c (.d (.i .i64 0)))⟩,
       ⟨some 100, none, .pick (.t 96) (.t 99) (.c (.d (.b false)))⟩,
       ⟨some 101, none, .mov (.t 100)⟩,
       ⟨some 102, (some (18, true)), .faddr 5 (.t 1)⟩,
       ⟨some 103, (some (18, true)), .load 1 false (.t 102)⟩,
       ⟨some 104, (some (18, true)), .bin .eql (.t 103) (.c (.d (.i .i64 0)))⟩,
       ⟨some 105, none, .pick (.t 101) (.t 104) (.c (.d (.b false)))⟩] false [])
      (.keep [105] (.cond (.t 105)
       (.keep [] (.seq
       (.region [⟨some 2, none, .mov (.c (.d (.i .i64 4)))⟩] false [])
       (.ret)))
       (.skip))))
      (.keep [] (.seq
      (.region [⟨some 2, none, .mov (.c (.d (.i .i64 0)))⟩] false [])
      (.ret)))))))))))))))⟩

/-- spindle/spindleref10.follows -/
def F39_spindleref10_follows : SFn := ⟨3, true, true, [.tmp 6],
  .seq
   (.region [⟨some 6, none, .mov (.c (.d (.b false)))⟩] false [])
   (.keep [0, 1, 2] (.seq
   (.region [⟨some 9, none, .mov (.t 0)⟩,
    ⟨some 10, none, .mov (.t 1)⟩,
    ⟨some 11, none, .iaddr 6 (.t 9) (.t 10)⟩,
    ⟨some 12, none, .load 6 true (.t 11)⟩,
    ⟨some 13, none, .call 38 [.t 12]⟩,
    ⟨some 7, none, .mov (.t 13)⟩] false [])
   (.keep [0, 1, 2, 7] (.seq
    (.seq
    (.region [⟨some 14, none, .mov (.t 7)⟩,
     ⟨some 15, none, .bin .eql (.t 14) (.c (.d (.i .i64 2)))⟩,
     ⟨some 16, none, .mov (.t 15)⟩,
     ⟨some 17, (some (2, true)), .mov (.t 0)⟩,
     ⟨some 18, (some (2, true)), .mov (.t 1)⟩,
     ⟨some 19, (some (2, true)), .iaddr 6 (.t 17) (.t 18)⟩,
     ⟨some 20, (some (2, true)), .faddr 4 (.t 19)⟩,
     ⟨some 21, (some (2, true)), .load 1 false (.t 20)⟩,
     ⟨some 22, (some (2, true)), .mov (.t 2)⟩,
     ⟨some 23, (some (2, true)), .bin .mul (.c (.d (.i .i64 16))) (.t 22)⟩,
     ⟨some 24, (some (2, true)), .bin .neq (.t 21) (.t 23)⟩,
     ⟨some 25, none, .pick (.t 16) (.t 24) (.c (.d (.b false)))⟩] false [])
    (.keep [0, 1, 7, 25] (.cond (.t 25)
     (.keep [] (.seq
     (.region [⟨some 6, none, .mov (.c (.d (.b false)))⟩] false [])
     (.ret)))
     (.skip))))
    (.keep [0, 1, 7] (.seq
    (.seq
     (.region [⟨some 26, none, .mov (.t 1)⟩,
      ⟨some 27, none, .bin .eql (.t 26) (.c (.d (.i .i64 0)))⟩] false [])
     (.keep [0, 1, 7, 27] (.cond (.t 27)
     (.keep [] (.seq
      (.region [⟨some 6, none, .mov (.c (.d (.b true)))⟩] false [])
      (.ret)))
     (.skip))))
    (.keep [0, 1, 7] (.seq
     (.region [⟨some 28, none, .mov (.t 0)⟩,
      ⟨some 29, none, .mov (.t 1)⟩,
      ⟨some 30, none, .bin .sub (.t 29) (.c (.d (.i .i64 1)))⟩,
      ⟨some 31, none, .iaddr 6 (.t 28) (.t 30)⟩,
      ⟨some 32, none, .load 6 true (.t 31)⟩,
      ⟨some 33, none, .call 38 [.t 32]⟩,
      ⟨some 8, none, .mov (.t 33)⟩] false [])
     (.keep [0, 1, 7, 8] (.seq
     (.region [⟨some 34, none, .mov (.t 8)⟩,
      ⟨some 35, none, .mov (.t 7)⟩,
      ⟨some 36, none, .bin .lss (.t 34) (.t 35)⟩,
      ⟨some 37, none, .mov (.t 36)⟩,
      ⟨some 38, (some (3, false)), .mov (.t 8)⟩,
      ⟨some 39, (some (3, false)), .mov (.t 7)⟩,
      ⟨some 40, (some (3, false)), .bin .eql (.t 38) (.t 39)⟩,
      ⟨some 41, (some (3, false)), .mov (.t 40)⟩,
      ⟨some 42, (some (7, true)), .mov (.t 7)⟩,
      ⟨some 43, (some (7, true)), .bin .eql (.t 42) (.c (.d (.i .i64 2)))⟩,
      ⟨some 44, (some (7, true)), .mov (.t 43)⟩,
      ⟨some 45, (some (10, false)), .mov (.t 7)⟩,
      ⟨some 46, (some (10, false)), .bin .eql (.t 45) (.c (.d (.i .i64 4)))⟩,
      ⟨some 47, (some (7, true)), .pick (.t 44) (.c (.d (.b true))) (.t 46)⟩,
      ⟨some 48, (some (7, true)), .mov (.t 47)⟩,
      ⟨some 49, (some (14, false)), .mov (.t 0)⟩,
      ⟨some 50, (some (14, false)), .mov (.t 1)⟩,
      ⟨some 51, (some (14, false)), .bin .sub (.t 50) (.c (.d (.i .i64 1)))⟩,
      ⟨some 52, (some (14, false)), .iaddr 6 (.t 49) (.t 51)⟩,
      ⟨some 53, (some (14, false)), .faddr 4 (.t 52)⟩,
      ⟨some 54, (some (14, false)), .load 1 false (.t 53)⟩,
      ⟨some 55, (some (14, false)), .mov (.t 0)⟩,
      ⟨some 56, (some (14, false)), .mov (.t 1)⟩,
      ⟨some 57, (some (14, false)), .iaddr 6 (.t 55) (.t 56)⟩,
      ⟨some 58, (some (14, false)), .faddr 4 (.t 57)⟩,
      ⟨some 59, (some (14, false)), .load 1 false (.t 58)⟩,
      ⟨some 60, (some (14, false)), .bin .lss (.t 54) (.t 59)⟩,
      ⟨some 61, (some (7, true)), .pick (.t 48) (.c (.d (.b true))) (.t 60)⟩,
      ⟨some 62, (some (3, false)), .pick (.t 41) (.t 61) (.c (.d (.b false)))⟩,
      ⟨some 63, none, .pick (.t 37) (.c (.d (.b true))) (.t 62)⟩,
      ⟨some 6, none, .mov (.t 63)⟩] true [0, 0, 3, 7, 15, 15, 63, 127, 255, 511, 1023, 2047, 4095, 8191, 16383, 32767, 32767, 98303, 262143, 524287, 1048575, 32767, 32767, 6324223, 14712831, 31490047, 67108863, 134217727, 268435455, 536870911, 1073741823])
     (.ret)))))))))))⟩

def F40_spindleref10_number_b0 : SCode :=
  .seq
     (.seq
      (.region [⟨some 8, none, .mov (.t 7)⟩,
       ⟨some 9, none, .mov (.t 2)⟩,
       ⟨some 10, none, .bin .lss (.t 8) (.t 9)⟩] false [])
      (.keep [0, 1, 2, 7, 10] (.cond (.t 10)
      (.skip)
      (.exit 0))))
     (.keep [0, 1, 2, 7] (.seq
      (.block 1 (.seq
       (.region [⟨some 13, none, .mov (.t 0)⟩,
        ⟨some 14, none, .mov (.t 1)⟩,
        ⟨some 15, none, .bin .rem (.t 14) (.c (.d (.i .i64 256)))⟩,
        ⟨some 16, none, .conv .u8 (.t 15)⟩,
        ⟨some 17, none, .lits 1 [.i .u8 0] [(0, 1, .t 16)]⟩,
        ⟨some 18, none, .app 1 1 (.t 13) (.t 17)⟩,
        ⟨some 0, none, .mov (.t 18)⟩] false [])
       (.keep [0, 1, 2, 7] (.region [⟨some 19, none, .mov (.t 1)⟩,
        ⟨some 20, none, .bin .quo (.t 19) (.c (.d (.i .i64 256)))⟩,
        ⟨some 1, none, .mov (.t 20)⟩] false []))))
      (.keep [0, 1, 2, 7] (.region [⟨some 11, none, .mov (.t 7)⟩,
       ⟨some 12, none, .bin .add (.t 11) (.c (.d (.i .i64 1)))⟩,
       ⟨some 7, none, .mov (.t 12)⟩] false []))))
/-- spindle/spindleref10.number -/
def F40_spindleref10_number : SFn := ⟨3, false, false, [.tmp 6],
  .seq
   (.region [⟨some 6, none, .mov (.c (.d (.sl 0 false [])))⟩] false [])
   (.keep [0, 1, 2] (.seq
   (.seq
    (.region [⟨some 7, none, .mov (.c (.d (.i .i64 0)))⟩] false [])
    (.keep [0, 1, 2, 7] (.block 0 (.loop [0, 1, 2, 7] false F40_spindleref10_number_b0))))
   (.keep [0] (.seq
    (.region [⟨some 21, none, .mov (.t 0)⟩,
     ⟨some 6, none, .mov (.t 21)⟩] false [])
    (.ret)))))⟩

def F41_spindleref10_Write_b0 : SCode :=
  .seq
      (.seq
       (.region [⟨some 9, none, .mov (.t 6)⟩,
        ⟨some 10, none, .mov (.t 0)⟩,
        ⟨some 11, none, .len false (.t 10)⟩,
        ⟨some 12, none, .bin .lss (.t 9) (.t 11)⟩] false [])
       (.keep [0, 4, 5, 6, 12] (.cond (.t 12)
       (.skip)
       (.exit 0))))
      (.keep [0, 4, 5, 6] (.seq
       (.block 1 (.seq
        (.seq
        (.region [⟨some 15, none, .mov (.t 0)⟩,
         ⟨some 16, none, .mov (.t 6)⟩,
         ⟨some 17, none, .iaddr 6 (.t 15) (.t 16)⟩,
         ⟨some 18, none, .load 6 true (.t 17)⟩,
         ⟨some 19, none, .call 38 [.t 18]⟩,
         ⟨some 20, none, .bin .eql (.t 19) (.c (.d (.i .i64 0)))⟩] false [])
        (.keep [0, 4, 5, 6, 20] (.cond (.t 20)
         (.keep [] (.seq
         (.region [⟨some 2, none, .mov (.c (.d (.sl 0 false [])))⟩,
          ⟨some 3, none, .mov (.c (.d (.i .i64 100)))⟩] false [])
         (.ret)))
         (.skip))))
        (.keep [0, 4, 5, 6] (.seq
        (.seq
         (.region [⟨some 21, none, .mov (.t 0)⟩,
          ⟨some 22, none, .mov (.t 6)⟩,
          ⟨some 23, none, .mov (.t 5)⟩,
          ⟨some 24, none, .call 39 [.t 21, .t 22, .t 23]⟩,
          ⟨some 25, none, .un .not (.t 24)⟩] false [])
         (.keep [0, 4, 5, 6, 25] (.cond (.t 25)
         (.keep [] (.seq
          (.region [⟨some 2, none, .mov (.c (.d (.sl 0 false [])))⟩,
           ⟨some 3, none, .mov (.c (.d (.i .i64 101)))⟩] false [])
          (.ret)))
         (.skip))))
        (.keep [0, 4, 5, 6] (.seq
         (.seq
         (.region [⟨some 26, none, .mov (.t 0)⟩,
          ⟨some 27, none, .mov (.t 6)⟩,
          ⟨some 28, none, .iaddr 6 (.t 26) (.t 27)⟩,
          ⟨some 29, none, .load 6 true (.t 28)⟩,
          ⟨some 30, none, .call 38 [.t 29]⟩,
          ⟨some 31, none, .bin .eql (.t 30) (.c (.d (.i .i64 2)))⟩] false [])
         (.keep [0, 4, 5, 6, 31] (.cond (.t 31)
          (.keep [0, 4, 5, 6] (.region [⟨some 32, none, .mov (.t 5)⟩,
           ⟨some 33, none, .bin .add (.t 32) (.c (.d (.i .i64 1)))⟩,
           ⟨some 5, none, .mov (.t 33)⟩] false []))
          (.skip))))
         (.keep [0, 4, 5, 6] (.seq
         (.region [⟨some 34, none, .mov (.t 0)⟩,
          ⟨some 35, none, .mov (.t 6)⟩,
          ⟨some 36, none, .iaddr 6 (.t 34) (.t 35)⟩,
          ⟨some 37, none, .load 6 true (.t 36)⟩,
          ⟨some 7, none, .alloc [.i .i64 0, .i .i64 0, .i .i64 0, .i .i64 0, .i .i64 0, .i .i64 0]⟩,
          ⟨none, none, .store 6 (.t 7) (.t 37)⟩] false [])
         (.keep [0, 4, 5, 6, 7] (.seq
          (.region [⟨some 38, none, .mov (.t 4)⟩,
           ⟨some 39, none, .faddr 0 (.t 7)⟩,
           ⟨some 40, none, .load 1 false (.t 39)⟩,
           ⟨some 41, none, .call 40 [.t 38, .t 40, .c (.d (.i .i64 4))]⟩,
           ⟨some 4, none, .mov (.t 41)⟩] false [])
          (.keep [0, 4, 5, 6, 7] (.seq
          (.region [⟨some 42, none, .mov (.t 4)⟩,
           ⟨some 43, none, .faddr 1 (.t 7)⟩,
           ⟨some 44, none, .load 1 false (.t 43)⟩,
           ⟨some 45, none, .bin .mul (.c (.d (.i .i64 16))) (.t 44)⟩,
           ⟨some 46, none, .faddr 2 (.t 7)⟩,
           ⟨some 47, none, .load 1 false (.t 46)⟩,
           ⟨some 48, none, .bin .add (.t 45) (.t 47)⟩,
           ⟨some 49, none, .call 40 [.t 42, .t 48, .c (.d (.i .i64 1))]⟩,
           ⟨some 4, none, .mov (.t 49)⟩] false [])
          (.keep [0, 4, 5, 6, 7] (.seq
           (.region [⟨some 50, none, .mov (.t 4)⟩,
            ⟨some 51, none, .call 40 [.t 50, .c (.d (.i .i64 0)), .c (.d (.i .i64 1))]⟩,
            ⟨some 4, none, .mov (.t 51)⟩] false [])
           (.keep [0, 4, 5, 6, 7] (.seq
           (.region [⟨some 52, none, .mov (.t 4)⟩,
            ⟨some 53, none, .faddr 3 (.t 7)⟩,
            ⟨some 54, none, .load 1 false (.t 53)⟩,
            ⟨some 55, none, .call 40 [.t 52, .t 54, .c (.d (.i .i64 2))]⟩,
            ⟨some 4, none, .mov (.t 55)⟩] false [])
           (.keep [0, 4, 5, 6, 7] (.seq
            (.region [⟨some 56, none, .mov (.t 4)⟩,
             ⟨some 57, none, .faddr 4 (.t 7)⟩,
             ⟨some 58, none, .load 1 false (.t 57)⟩,
             ⟨some 59, none, .call 40 [.t 56, .t 58, .c (.d (.i .i64 8))]⟩,
             ⟨some 4, none, .mov (.t 59)⟩] false [])
            (.keep [0, 4, 5, 6, 7] (.region [⟨some 60, none, .mov (.t 4)⟩,
             ⟨some 61, none, .faddr 5 (.t 7)⟩,
             ⟨some 62, none, .load 1 false (.t 61)⟩,
             ⟨some 63, none, .call 40 [.t 60, .t 62, .c (.d (.i .i64 8))]⟩,
             ⟨some 4, none, .mov (.t 63)⟩] false []))))))))))))))))))))
       (.keep [0, 4, 5, 6] (.region [⟨some 13, none, .mov (.t 6)⟩,
        ⟨some 14, none, .bin .add (.t 13) (.c (.d (.i .i64 1)))⟩,
        ⟨some 6, none, .mov (.t 14)⟩] false []))))
/-- spindle/spindleref10.Write -/
def F41_spindleref10_Write : SFn := ⟨1, true, true, [.tmp 2, .tmp 3],
  .seq
   (.region [⟨some 2, none, .mov (.c (.d (.sl 0 false [])))⟩,
    ⟨some 3, none, .mov (.c (.d (.i .i64 0)))⟩] false [])
   (.keep [0] (.seq
   (.region [⟨some 8, none, .mkO 1 1 [.i .u8 0] (.c (.d (.i .i64 24))) (.c (.d (.i .i64 24)))⟩,
    ⟨some 4, none, .mov (.t 8)⟩] false [])
   (.keep [0, 4] (.seq
    (.region [⟨some 5, none, .mov (.c (.d (.i .i64 0)))⟩] false [])
    (.keep [0, 4, 5] (.seq
    (.seq
     (.region [⟨some 6, none, .mov (.c (.d (.i .i64 0)))⟩] false [])
     (.keep [0, 4, 5, 6] (.block 0 (.loop [0, 4, 5, 6] true F41_spindleref10_Write_b0))))
    (.keep [4] (.seq
     (.region [⟨some 64, none, .mov (.t 4)⟩,
      ⟨some 2, none, .mov (.t 64)⟩,
      ⟨some 3, none, .mov (.c (.d (.i .i64 0)))⟩] false [])
     (.ret)))))))))⟩

def F42_spindleref10_Read_b1 : SCode :=
  .seq
            (.seq
            (.region [⟨some 30, none, .mov (.t 8)⟩,
             ⟨some 31, none, .bin .lss (.t 30) (.c (.d (.i .i64 24)))⟩] false [])
            (.keep [0, 5, 6, 7, 8, 31] (.cond (.t 31)
             (.skip)
             (.exit 2))))
            (.keep [0, 5, 6, 7, 8] (.seq
            (.block 3 (.seq
             (.region [⟨some 34, none, .mov (.t 0)⟩,
              ⟨some 35, none, .mov (.t 8)⟩,
              ⟨some 36, none, .iaddr 1 (.t 34) (.t 35)⟩,
              ⟨some 37, none, .load 1 false (.t 36)⟩,
              ⟨some 38, none, .bin .neq (.t 37) (.c (.d (.i .u8 0)))⟩] false [])
             (.keep [0, 5, 6, 7, 8, 38] (.cond (.t 38)
              (.keep [8] (.seq
              (.region [⟨some 39, none, .mov (.t 8)⟩,
               ⟨some 2, none, .mov (.c (.d (.sl 0 false [])))⟩,
               ⟨some 3, none, .mov (.t 39)⟩,
               ⟨some 4, none, .mov (.c (.d (.i .i64 100)))⟩] false [])
              (.ret)))
              (.skip)))))
            (.keep [0, 5, 6, 7, 8] (.region [⟨some 32, none, .mov (.t 8)⟩,
             ⟨some 33, none, .bin .add (.t 32) (.c (.d (.i .i64 1)))⟩,
             ⟨some 8, none, .mov (.t 33)⟩] false []))))
def F42_spindleref10_Read_b0 : SCode :=
  .seq
      (.seq
       (.region [⟨some 11, none, .mov (.t 7)⟩,
        ⟨some 12, none, .mov (.t 0)⟩,
        ⟨some 13, none, .len false (.t 12)⟩,
        ⟨some 14, none, .bin .lss (.t 11) (.t 13)⟩,
        ⟨some 15, none, .mov (.t 14)⟩,
        ⟨some 16, (some (4, false)), .mov (.t 7)⟩,
        ⟨some 17, (some (4, false)), .bin .eql (.t 16) (.c (.d (.i .i64 0)))⟩,
        ⟨some 18, none, .pick (.t 15) (.c (.d (.b true))) (.t 17)⟩] false [])
       (.keep [0, 5, 6, 7, 18] (.cond (.t 18)
       (.skip)
       (.exit 0))))
      (.keep [0, 5, 6, 7] (.seq
       (.block 1 (.seq
        (.seq
        (.region [⟨some 21, none, .mov (.t 0)⟩,
         ⟨some 22, none, .len false (.t 21)⟩,
         ⟨some 23, none, .mov (.t 7)⟩,
         ⟨some 24, none, .bin .sub (.t 22) (.t 23)⟩,
         ⟨some 25, none, .bin .lss (.t 24) (.c (.d (.i .i64 24)))⟩] false [])
        (.keep [0, 5, 6, 7, 25] (.cond (.t 25)
         (.keep [0] (.seq
         (.region [⟨some 26, none, .mov (.t 0)⟩,
          ⟨some 27, none, .len false (.t 26)⟩,
          ⟨some 2, none, .mov (.c (.d (.sl 0 false [])))⟩,
          ⟨some 3, none, .mov (.t 27)⟩,
          ⟨some 4, none, .mov (.c (.d (.i .i64 100)))⟩] false [])
         (.ret)))
         (.skip))))
        (.keep [0, 5, 6, 7] (.seq
        (.seq
         (.region [⟨some 28, none, .mov (.t 7)⟩,
          ⟨some 29, none, .bin .eql (.t 28) (.c (.d (.i .i64 0)))⟩] false [])
         (.keep [0, 5, 6, 7, 29] (.cond (.t 29)
         (.keep [0, 5, 6, 7] (.seq
          (.seq
          (.region [⟨some 8, none, .mov (.c (.d (.i .i64 0)))⟩] false [])
          (.keep [0, 5, 6, 7, 8] (.block 2 (.loop [0, 5, 6, 7, 8] false F42_spindleref10_Read_b1))))
          (.exit 1)))
         (.skip))))
        (.keep [0, 5, 6, 7] (.seq
         (.region [⟨some 41, none, .mov (.t 0)⟩,
          ⟨some 42, none, .mov (.t 7)⟩,
          ⟨some 43, none, .mov (.t 7)⟩,
          ⟨some 44, none, .bin .add (.t 43) (.c (.d (.i .i64 24)))⟩,
          ⟨some 45, none, .slc 1 (.t 41) (some (.t 42)) (some (.t 44)) none⟩,
          ⟨some 46, none, .call 43 [.t 45]⟩,
          ⟨some 40, none, .mov (.t 46)⟩,
          ⟨some 47, none, .extract 0 (.t 40)⟩,
          ⟨some 48, none, .extract 1 (.t 40)⟩,
          ⟨some 9, none, .alloc [.i .i64 0, .i .i64 0, .i .i64 0, .i .i64 0, .i .i64 0, .i .i64 0]⟩,
          ⟨none, none, .store 6 (.t 9) (.t 47)⟩,
          ⟨some 10, none, .mov (.t 48)⟩] false [])
         (.keep [0, 5, 6, 7, 9, 10] (.seq
         (.seq
          (.region [⟨some 49, none, .mov (.t 10)⟩,
           ⟨some 50, none, .bin .geq (.t 49) (.c (.d (.i .i64 0)))⟩] false [])
          (.keep [0, 5, 6, 7, 9, 10, 50] (.cond (.t 50)
          (.keep [7, 10] (.seq
           (.region [⟨some 51, none, .mov (.t 7)⟩,
            ⟨some 52, none, .mov (.t 10)⟩,
            ⟨some 53, none, .bin .add (.t 51) (.t 52)⟩,
            ⟨some 2, none, .mov (.c (.d (.sl 0 false [])))⟩,
            ⟨some 3, none, .mov (.t 53)⟩,
            ⟨some 4, none, .mov (.c (.d (.i .i64 100)))⟩] false [])
           (.ret)))
          (.skip))))
         (.keep [0, 5, 6, 7, 9] (.seq
          (.region [⟨some 54, none, .mov (.t 5)⟩,
           ⟨some 55, none, .load 6 true (.t 9)⟩,
           ⟨some 56, none, .lits 1 [.i .i64 0, .i .i64 0, .i .i64 0, .i .i64 0, .i .i64 0, .i .i64 0] [(0, 6, .t 55)]⟩,
           ⟨some 57, none, .app 6 48 (.t 54) (.t 56)⟩,
           ⟨some 5, none, .mov (.t 57)⟩] false [])
          (.keep [0, 5, 6, 7, 9] (.seq
          (.seq
           (.region [⟨some 58, none, .mov (.t 5)⟩,
            ⟨some 59, none, .mov (.t 5)⟩,
            ⟨some 60, none, .len false (.t 59)⟩,
            ⟨some 61, none, .bin .sub (.t 60) (.c (.d (.i .i64 1)))⟩,
            ⟨some 62, none, .mov (.t 6)⟩,
            ⟨some 63, none, .call 39 [.t 58, .t 61, .t 62]⟩,
            ⟨some 64, none, .un .not (.t 63)⟩] false [])
           (.keep [0, 5, 6, 7, 9, 64] (.cond (.t 64)
           (.keep [7] (.seq
            (.region [⟨some 65, none, .mov (.t 7)⟩,
             ⟨some 2, none, .mov (.c (.d (.sl 0 false [])))⟩,
             ⟨some 3, none, .mov (.t 65)⟩,
             ⟨some 4, none, .mov (.c (.d (.i .i64 101)))⟩] false [])
            (.ret)))
           (.skip))))
          (.keep [0, 5, 6, 7, 9] (.seq
           (.region [⟨some 66, none, .load 6 true (.t 9)⟩,
            ⟨some 67, none, .call 38 [.t 66]⟩,
            ⟨some 68, none, .bin .eql (.t 67) (.c (.d (.i .i64 2)))⟩] false [])
           (.keep [0, 5, 6, 7, 68] (.cond (.t 68)
           (.keep [0, 5, 6, 7] (.region [⟨some 69, none, .mov (.t 6)⟩,
            ⟨some 70, none, .bin .add (.t 69) (.c (.d (.i .i64 1)))⟩,
            ⟨some 6, none, .mov (.t 70)⟩] false []))
           (.skip)))))))))))))))))
       (.keep [0, 5, 6, 7] (.region [⟨some 19, none, .mov (.t 7)⟩,
        ⟨some 20, none, .bin .add (.t 19) (.c (.d (.i .i64 24)))⟩,
        ⟨some 7, none, .mov (.t 20)⟩] false []))))
/-- spindle/spindleref10.Read -/
def F42_spindleref10_Read : SFn := ⟨1, true, true, [.tmp 2, .tmp 3, .tmp 4],
  .seq
   (.region [⟨some 2, none, .mov (.c (.d (.sl 0 false [])))⟩,
    ⟨some 3, none, .mov (.c (.d (.i .i64 0)))⟩,
    ⟨some 4, none, .mov (.c (.d (.i .i64 0)))⟩] false [])
   (.keep [0] (.seq
   (.region [⟨some 5, none, .tok 6 (.c (.d (.sl 0 false [])))⟩] false [])
   (.keep [0, 5] (.seq
    (.region [⟨some 6, none, .mov (.c (.d (.i .i64 0)))⟩] false [])
    (.keep [0, 5, 6] (.seq
    (.seq
     (.region [⟨some 7, none, .mov (.c (.d (.i .i64 0)))⟩] false [])
     (.keep [0, 5, 6, 7] (.block 0 (.loop [0, 5, 6, 7] false F42_spindleref10_Read_b0))))
    (.keep [5] (.seq
     (.region [⟨some 71, none, .mov (.t 5)⟩,
      ⟨some 2, none, .mov (.t 71)⟩,
      ⟨some 3, none, .mov (.c (.d (.i .i64 0)))⟩,
      ⟨some 4, none, .mov (.c (.d (.i .i64 0)))⟩] false [])
     (.ret)))))))))⟩

/-- spindle/spindleref10.entry -/
def F43_spindleref10_entry : SFn := ⟨1, true, true, [.cell 2 6 true, .tmp 3],
  .seq
   (.region [⟨some 2, none, .alloc [.i .i64 0, .i .i64 0, .i .i64 0, .i .i64 0, .i .i64 0, .i .i64 0]⟩,
    ⟨some 3, none, .mov (.c (.d (.i .i64 0)))⟩] false [])
   (.keep [0, 2] (.seq
   (.region [⟨some 6, none, .mov (.t 0)⟩,
    ⟨some 7, none, .slc 1 (.t 6) none (some (.c (.d (.i .i64 4)))) none⟩,
    ⟨some 8, none, .call 60 [.t 7]⟩,
    ⟨some 9, none, .mov (.t 0)⟩,
    ⟨some 10, none, .iaddr 1 (.t 9) (.c (.d (.i .i64 4)))⟩,
    ⟨some 11, none, .load 1 false (.t 10)⟩,
    ⟨some 12, none, .bin .quo (.t 11) (.c (.d (.i .u8 16)))⟩,
    ⟨some 13, none, .conv .i64 (.t 12)⟩,
    ⟨some 14, none, .mov (.t 0)⟩,
    ⟨some 15, none, .iaddr 1 (.t 14) (.c (.d (.i .i64 4)))⟩,
    ⟨some 16, none, .load 1 false (.t 15)⟩,
    ⟨some 17, none, .bin .rem (.t 16) (.c (.d (.i .u8 16)))⟩,
    ⟨some 18, none, .conv .i64 (.t 17)⟩,
    ⟨some 19, none, .mov (.t 0)⟩,
    ⟨some 20, none, .slc 1 (.t 19) (some (.c (.d (.i .i64 6)))) (some (.c (.d (.i .i64 8)))) none⟩,
    ⟨some 21, none, .call 60 [.t 20]⟩,
    ⟨some 22, none, .mov (.t 0)⟩,
    ⟨some 23, none, .slc 1 (.t 22) (some (.c (.d (.i .i64 8)))) (some (.c (.d (.i .i64 16)))) none⟩,
    ⟨some 24, none, .call 60 [.t 23]⟩,
    ⟨some 25, none, .mov (.t 0)⟩,
    ⟨some 26, none, .slc 1 (.t 25) (some (.c (.d (.i .i64 16)))) (some (.c (.d (.i .i64 24)))) none⟩,
    ⟨some 27, none, .call 60 [.t 26]⟩,
    ⟨some 28, none, .build [.i .i64 0, .i .i64 0, .i .i64 0, .i .i64 0, .i .i64 0, .i .i64 0] [(0, 1, .t 8), (1, 1, .t 13), (2, 1, .t 18), (3, 1, .t 21), (4, 1, .t 24), (5, 1, .t 27)]⟩,
    ⟨some 4, none, .alloc [.i .i64 0, .i .i64 0, .i .i64 0, .i .i64 0, .i .i64 0, .i .i64 0]⟩,
    ⟨none, none, .store 6 (.t 4) (.t 28)⟩] true [0, 1, 3, 0, 8, 24, 56, 120, 0, 256, 768, 1792, 3840, 0, 8192, 24583, 0, 65536, 253959, 0, 524288, 2088967, 4194303, 0, 16777215])
   (.keep [0, 2, 4] (.seq
    (.seq
    (.region [⟨some 29, none, .mov (.t 0)⟩,
     ⟨some 30, none, .iaddr 1 (.t 29) (.c (.d (.i .i64 4)))⟩,
     ⟨some 31, none, .load 1 false (.t 30)⟩,
     ⟨some 32, none, .bin .neq (.t 31) (.c (.d (.i .u8 2)))⟩,
     ⟨some 33, none, .mov (.t 32)⟩,
     ⟨some 34, (some (4, true)), .mov (.t 0)⟩,
     ⟨some 35, (some (4, true)), .iaddr 1 (.t 34) (.c (.d (.i .i64 4)))⟩,
     ⟨some 36, (some (4, true)), .load 1 false (.t 35)⟩,
     ⟨some 37, (some (4, true)), .bin .neq (.t 36) (.c (.d (.i .u8 1)))⟩,
     ⟨some 38, none, .pick (.t 33) (.t 37) (.c (.d (.b false)))⟩,
     ⟨some 39, none, .mov (.t 38)⟩,
     ⟨some 40, (some (10, true)), .mov (.t 0)⟩,
     ⟨some 41, (some (10, true)), .iaddr 1 (.t 40) (.c (.d (.i .i64 4)))⟩,
     ⟨some 42, (some (10, true)), .load 1 false (.t 41)⟩,
     ⟨some 43, (some (10, true)), .bin .neq (.t 42) (.c (.d (.i .u8 18)))⟩,
     ⟨some 44, none, .pick (.t 39) (.t 43) (.c (.d (.b false)))⟩,
     ⟨some 45, none, .mov (.t 44)⟩,
     ⟨some 46, (some (16, true)), .mov (.t 0)⟩,
     ⟨some 47, (some (16, true)), .iaddr 1 (.t 46) (.c (.d (.i .i64 4)))⟩,
     ⟨some 48, (some (16, true)), .load 1 false (.t 47)⟩,
     ⟨some 49, (some (16, true)), .bin .neq (.t 48) (.c (.d (.i .u8 16)))⟩,
     ⟨some 50, none, .pick (.t 45) (.t 49) (.c (.d (.b false)))⟩] false [])
    (.keep [0, 2, 4, 50] (.cond (.t 50)
     (.keep [2, 4] (.seq
     (.region [⟨some 51, none, .load 6 true (.t 4)⟩,
      ⟨none, none, .store 6 (.t 2) (.t 51)⟩,
      ⟨some 3, none, .mov (.c (.d (.i .i64 4)))⟩] false [])
     (.ret)))
     (.skip))))
    (.keep [0, 2, 4] (.seq
    (.seq
     (.region [⟨some 52, none, .mov (.t 0)⟩,
      ⟨some 53, none, .iaddr 1 (.t 52) (.c (.d (.i .i64 5)))⟩,
      ⟨some 54, none, .load 1 false (.t 53)⟩,
      ⟨some 55, none, .bin .neq (.t 54) (.c (.d (.i .u8 0)))⟩] false [])
     (.keep [2, 4, 55] (.cond (.t 55)
     (.keep [2, 4] (.seq
      (.region [⟨some 56, none, .load 6 true (.t 4)⟩,
       ⟨none, none, .store 6 (.t 2) (.t 56)⟩,
       ⟨some 3, none, .mov (.c (.d (.i .i64 5)))⟩] false [])
      (.ret)))
     (.skip))))
    (.keep [2, 4] (.seq
     (.region [⟨some 57, none, .faddr 0 (.t 4)⟩,
      ⟨some 58, none, .load 1 false (.t 57)⟩,
      ⟨some 59, none, .faddr 1 (.t 4)⟩,
      ⟨some 60, none, .load 1 false (.t 59)⟩,
      ⟨some 61, none, .faddr 2 (.t 4)⟩,
      ⟨some 62, none, .load 1 false (.t 61)⟩,
      ⟨some 63, none, .faddr 3 (.t 4)⟩,
      ⟨some 64, none, .load 1 false (.t 63)⟩,
      ⟨some 65, none, .build [.i .i64 0, .i .i64 0, .i .i64 0, .i .i64 0, .i .i64 0, .i .i64 0] [(0, 1, .t 58), (1, 1, .t 60), (2, 1, .t 62), (3, 1, .t 64)]⟩,
      ⟨some 5, none, .alloc [.i .i64 0, .i .i64 0, .i .i64 0, .i .i64 0, .i .i64 0, .i .i64 0]⟩,
      ⟨none, none, .store 6 (.t 5) (.t 65)⟩] false [])
     (.keep [2, 4, 5] (.seq
     (.seq
      (.region [⟨some 66, none, .faddr 2 (.t 4)⟩,
       ⟨some 67, none, .load 1 false (.t 66)⟩,
       ⟨some 68, none, .bin .eql (.t 67) (.c (.d (.i .i64 2)))⟩] false [])
      (.keep [2, 4, 5, 68] (.cond (.t 68)
      (.keep [2, 4, 5] (.region [⟨some 69, none, .faddr 5 (.t 5)⟩,
       ⟨none, none, .store 1 (.t 69) (.c (.d (.i .i64 8)))⟩] false []))
      (.skip))))
     (.keep [2, 4, 5] (.seq
      (.seq
      (.region [⟨some 70, none, .faddr 2 (.t 4)⟩,
       ⟨some 71, none, .load 1 false (.t 70)⟩,
       ⟨some 72, none, .bin .eql (.t 71) (.c (.d (.i .i64 1)))⟩] false [])
      (.keep [2, 4, 5, 72] (.cond (.t 72)
       (.keep [2, 4, 5] (.region [⟨some 73, none, .faddr 5 (.t 5)⟩,
        ⟨none, none, .store 1 (.t 73) (.c (.d (.i .i64 16)))⟩] false []))
       (.skip))))
      (.keep [2, 4, 5] (.seq
      (.seq
       (.region [⟨some 74, none, .load 6 true (.t 5)⟩,
        ⟨some 75, none, .call 38 [.t 74]⟩,
        ⟨some 76, none, .bin .eql (.t 75) (.c (.d (.i .i64 0)))⟩] false [])
       (.keep [2, 4, 5, 76] (.cond (.t 76)
       (.keep [2, 4] (.seq
        (.region [⟨some 77, none, .load 6 true (.t 4)⟩,
         ⟨none, none, .store 6 (.t 2) (.t 77)⟩,
         ⟨some 3, none, .mov (.c (.d (.i .i64 6)))⟩] false [])
        (.ret)))
       (.skip))))
      (.keep [2, 4, 5] (.seq
       (.region [⟨some 78, none, .faddr 4 (.t 4)⟩,
        ⟨some 79, none, .load 1 false (.t 78)⟩,
        ⟨some 80, none, .faddr 4 (.t 5)⟩,
        ⟨none, none, .store 1 (.t 80) (.t 79)⟩] false [])
       (.keep [2, 4, 5] (.seq
       (.seq
        (.region [⟨some 81, none, .load 6 true (.t 5)⟩,
         ⟨some 82, none, .call 38 [.t 81]⟩,
         ⟨some 83, none, .bin .eql (.t 82) (.c (.d (.i .i64 0)))⟩] false [])
        (.keep [2, 4, 83] (.cond (.t 83)
        (.keep [2, 4] (.seq
         (.region [⟨some 84, none, .load 6 true (.t 4)⟩,
          ⟨none, none, .store 6 (.t 2) (.t 84)⟩,
          ⟨some 3, none, .mov (.c (.d (.i .i64 8)))⟩] false [])
         (.ret)))
        (.skip))))
       (.keep [2, 4] (.seq
        (.seq
        (.region [⟨some 85, none, .load 6 true (.t 4)⟩,
         ⟨some 86, none, .call 38 [.t 85]⟩,
         ⟨some 87, none, .bin .eql (.t 86) (.c (.d (.i .i64 0)))⟩] false [])
        (.keep [2, 4, 87] (.cond (.t 87)
         (.keep [2, 4] (.seq
         (.region [⟨some 88, none, .load 6 true (.t 4)⟩,
          ⟨none, none, .store 6 (.t 2) (.t 88)⟩,
          ⟨some 3, none, .mov (.c (.d (.i .i64 16)))⟩] false [])
         (.ret)))
         (.skip))))
        (.keep [2, 4] (.seq
        (.region [⟨some 89, none, .load 6 true (.t 4)⟩,
         ⟨none, none, .store 6 (.t 2) (.t 89)⟩,
         ⟨some 3, none, .mov (.c (.d (.i .i64 (-1))))⟩] false [])
        (.ret)))))))))))))))))))))))⟩

def F60_spindleref10_told_b0 : SCode :=
  .seq
      (.seq
      (.region [⟨some 8, none, .mov (.t 4)⟩,
       ⟨some 9, none, .bin .geq (.t 8) (.c (.d (.i .i64 0)))⟩] false [])
      (.keep [0, 3, 4, 9] (.cond (.t 9)
       (.skip)
       (.exit 0))))
      (.keep [0, 3, 4] (.seq
      (.block 1 (.region [⟨some 12, none, .mov (.t 3)⟩,
        ⟨some 13, none, .bin .mul (.t 12) (.c (.d (.i .u64 256)))⟩,
        ⟨some 14, none, .mov (.t 0)⟩,
        ⟨some 15, none, .mov (.t 4)⟩,
        ⟨some 16, none, .iaddr 1 (.t 14) (.t 15)⟩,
        ⟨some 17, none, .load 1 false (.t 16)⟩,
        ⟨some 18, none, .conv .u64 (.t 17)⟩,
        ⟨some 19, none, .bin .add (.t 13) (.t 18)⟩,
        ⟨some 3, none, .mov (.t 19)⟩] false []))
      (.keep [0, 3, 4] (.region [⟨some 10, none, .mov (.t 4)⟩,
       ⟨some 11, none, .bin .sub (.t 10) (.c (.d (.i .i64 1)))⟩,
       ⟨some 4, none, .mov (.t 11)⟩] false []))))
/-- spindle/spindleref10.told -/
def F60_spindleref10_told : SFn := ⟨1, true, true, [.tmp 2],
  .seq
   (.region [⟨some 2, none, .mov (.c (.d (.i .i64 0)))⟩] false [])
   (.keep [0] (.seq
   (.region [⟨some 3, none, .mov (.c (.d (.i .u64 0)))⟩] false [])
   (.keep [0, 3] (.seq
    (.seq
    (.region [⟨some 5, none, .mov (.t 0)⟩,
     ⟨some 6, none, .len false (.t 5)⟩,
     ⟨some 7, none, .bin .sub (.t 6) (.c (.d (.i .i64 1)))⟩,
     ⟨some 4, none, .mov (.t 7)⟩] false [])
    (.keep [0, 3, 4] (.block 0 (.loop [0, 3, 4] false F60_spindleref10_told_b0))))
    (.keep [3] (.seq
    (.seq
     (.region [⟨some 20, none, .mov (.t 3)⟩,
      ⟨some 21, none, .bin .geq (.t 20) (.c (.d (.i .u64 9223372036854775808)))⟩] false [])
     (.keep [3, 21] (.cond (.t 21)
     (.keep [] (.seq
      (.region [⟨some 2, none, .mov (.c (.d (.i .i64 (-1))))⟩] false [])
      (.ret)))
     (.skip))))
    (.keep [3] (.seq
     (.region [⟨some 22, none, .mov (.t 3)⟩,
      ⟨some 23, none, .conv .i64 (.t 22)⟩,
      ⟨some 2, none, .mov (.t 23)⟩] false [])
     (.ret)))))))))⟩
end Go.Sh
