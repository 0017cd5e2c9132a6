/- Shadow functions of law2, written by tr.py. -/
import Derived.Test.YtbjckcenlfgcaabDoorShBa
namespace Go.Sh
/-- spindle/spindlelaw2.awake -/
def F25_spindlelaw2_awake : SFn := ⟨0, true, true, [.tmp 0],
  .seq
   (.region [⟨some 0, none, .mov (.c (.d (.b false)))⟩] false [])
   (.keep [] (.seq
   (.region [⟨some 3, none, .build [.i .i64 0, .i .i64 0, .i .i64 0, .i .i64 0, .i .i64 0] [(0, 1, .c (.d (.i .i64 55))), (1, 1, .c (.d (.i .i64 1))), (3, 1, .c (.d (.i .i64 1))), (4, 1, .c (.d (.i .i64 5)))]⟩,
    ⟨some 4, none, .call 27 [.t 3]⟩,
    ⟨some 1, none, .mov (.t 4)⟩] false [])
   (.keep [1] (.seq
    (.region [⟨some 5, none, .build [.i .i64 0, .i .i64 0, .i .i64 0, .i .i64 0, .i .i64 0] [(0, 1, .c (.d (.i .i64 39))), (1, 1, .c (.d (.i .i64 1))), (3, 1, .c (.d (.i .i64 1))), (4, 1, .c (.d (.i .i64 5)))]⟩,
     ⟨some 6, none, .call 27 [.t 5]⟩,
     ⟨some 2, none, .mov (.t 6)⟩] false [])
    (.keep [1, 2] (.seq
    (.region [⟨some 7, none, .mov (.t 1)⟩,
     ⟨some 8, none, .bin .eql (.t 7) (.c (.d (.i .i64 0)))⟩,
     ⟨some 9, none, .mov (.t 8)⟩,
     ⟨some 10, (some (2, true)), .mov (.t 2)⟩,
     ⟨some 11, (some (2, true)), .bin .eql (.t 10) (.c (.d (.i .i64 21)))⟩,
     ⟨some 12, none, .pick (.t 9) (.t 11) (.c (.d (.b false)))⟩,
     ⟨some 0, none, .mov (.t 12)⟩] false [])
    (.ret)))))))⟩

def F66_spindlelaw2_IsaMay_b0 : SCode :=
  .seq
     (.seq
      (.region [⟨some 6, none, .mov (.t 3)⟩,
       ⟨some 7, none, .mov (.t 0)⟩,
       ⟨some 8, none, .len false (.t 7)⟩,
       ⟨some 9, none, .bin .lss (.t 6) (.t 8)⟩] false [])
      (.keep [0, 3, 9] (.cond (.t 9)
      (.skip)
      (.exit 0))))
     (.keep [0, 3] (.seq
      (.block 1 (.seq
       (.region [⟨some 12, none, .mov (.t 0)⟩,
        ⟨some 13, none, .mov (.t 3)⟩,
        ⟨some 14, none, .iaddr 5 (.t 12) (.t 13)⟩,
        ⟨some 15, none, .load 5 true (.t 14)⟩,
        ⟨some 16, none, .call 65 [.t 15]⟩,
        ⟨some 4, none, .mov (.t 16)⟩] false [])
       (.keep [0, 3, 4] (.seq
       (.region [⟨some 17, none, .mov (.t 0)⟩,
        ⟨some 18, none, .mov (.t 3)⟩,
        ⟨some 19, none, .iaddr 5 (.t 17) (.t 18)⟩,
        ⟨some 20, none, .load 5 true (.t 19)⟩,
        ⟨some 21, none, .call 27 [.t 20]⟩,
        ⟨some 5, none, .mov (.t 21)⟩] false [])
       (.keep [0, 3, 4, 5] (.seq
        (.region [⟨some 22, none, .mov (.t 5)⟩,
         ⟨some 23, none, .call 12 [.t 22]⟩,
         ⟨some 24, none, .mov (.t 4)⟩,
         ⟨some 25, none, .bin .neq (.t 23) (.t 24)⟩] false [])
        (.keep [0, 3, 25] (.cond (.t 25)
        (.keep [] (.seq
         (.region [⟨some 2, none, .mov (.c (.d (.b false)))⟩] false [])
         (.ret)))
        (.skip)))))))))
      (.keep [0, 3] (.region [⟨some 10, none, .mov (.t 3)⟩,
       ⟨some 11, none, .bin .add (.t 10) (.c (.d (.i .i64 1)))⟩,
       ⟨some 3, none, .mov (.t 11)⟩] false []))))
/-- spindle/spindlelaw2.IsaMay -/
def F66_spindlelaw2_IsaMay : SFn := ⟨1, true, true, [.tmp 2],
  .seq
   (.region [⟨some 2, none, .mov (.c (.d (.b false)))⟩] false [])
   (.keep [0] (.seq
   (.seq
    (.region [⟨some 3, none, .mov (.c (.d (.i .i64 0)))⟩] false [])
    (.keep [0, 3] (.block 0 (.loop [0, 3] false F66_spindlelaw2_IsaMay_b0))))
   (.keep [] (.seq
    (.region [⟨some 26, none, .call 25 []⟩,
     ⟨some 2, none, .mov (.t 26)⟩] false [])
    (.ret)))))⟩

def F90_spindlelaw2_IsaTells_b0 : SCode :=
  .seq
     (.seq
      (.region [⟨some 9, none, .mov (.t 3)⟩,
       ⟨some 10, none, .mov (.t 0)⟩,
       ⟨some 11, none, .len false (.t 10)⟩,
       ⟨some 12, none, .bin .lss (.t 9) (.t 11)⟩] false [])
      (.keep [0, 3, 12] (.cond (.t 12)
      (.skip)
      (.exit 0))))
     (.keep [0, 3] (.seq
      (.block 1 (.seq
       (.region [⟨some 15, none, .mov (.t 0)⟩,
        ⟨some 16, none, .mov (.t 3)⟩,
        ⟨some 17, none, .iaddr 5 (.t 15) (.t 16)⟩,
        ⟨some 18, none, .load 5 true (.t 17)⟩,
        ⟨some 4, none, .alloc [.i .i64 0, .i .i64 0, .i .i64 0, .i .i64 0, .i .i64 0]⟩,
        ⟨none, none, .store 5 (.t 4) (.t 18)⟩] false [])
       (.keep [0, 3, 4] (.seq
       (.region [⟨some 19, none, .load 5 true (.t 4)⟩,
        ⟨some 20, none, .call 82 [.t 19]⟩,
        ⟨some 5, none, .mov (.t 20)⟩] false [])
       (.keep [0, 3, 4, 5] (.seq
        (.region [⟨some 21, none, .load 5 true (.t 4)⟩,
         ⟨some 22, none, .call 83 [.t 21]⟩,
         ⟨some 6, none, .mov (.t 22)⟩] false [])
        (.keep [0, 3, 4, 5, 6] (.seq
        (.region [⟨some 23, none, .load 5 true (.t 4)⟩,
         ⟨some 24, none, .call 84 [.t 23]⟩,
         ⟨some 7, none, .mov (.t 24)⟩] false [])
        (.keep [0, 3, 4, 5, 6, 7] (.seq
         (.region [⟨some 25, none, .load 5 true (.t 4)⟩,
          ⟨some 26, none, .call 85 [.t 25]⟩,
          ⟨some 8, none, .mov (.t 26)⟩] false [])
         (.keep [0, 3, 4, 5, 6, 7, 8] (.seq
         (.region [⟨some 27, none, .mov (.t 5)⟩,
          ⟨some 28, none, .load 5 true (.t 4)⟩,
          ⟨some 29, none, .call 86 [.t 28]⟩,
          ⟨some 30, none, .call 16 [.t 27, .t 29]⟩,
          ⟨some 31, none, .un .not (.t 30)⟩,
          ⟨some 32, none, .mov (.t 31)⟩,
          ⟨some 33, (some (5, false)), .mov (.t 6)⟩,
          ⟨some 34, (some (5, false)), .load 5 true (.t 4)⟩,
          ⟨some 35, (some (5, false)), .call 87 [.t 34]⟩,
          ⟨some 36, (some (5, false)), .call 16 [.t 33, .t 35]⟩,
          ⟨some 37, (some (5, false)), .un .not (.t 36)⟩,
          ⟨some 38, none, .pick (.t 32) (.c (.d (.b true))) (.t 37)⟩,
          ⟨some 39, none, .mov (.t 38)⟩,
          ⟨some 40, (some (12, false)), .mov (.t 7)⟩,
          ⟨some 41, (some (12, false)), .load 5 true (.t 4)⟩,
          ⟨some 42, (some (12, false)), .call 88 [.t 41]⟩,
          ⟨some 43, (some (12, false)), .bin .neq (.t 40) (.t 42)⟩,
          ⟨some 44, none, .pick (.t 39) (.c (.d (.b true))) (.t 43)⟩,
          ⟨some 45, none, .mov (.t 44)⟩,
          ⟨some 46, (some (18, false)), .mov (.t 8)⟩,
          ⟨some 47, (some (18, false)), .load 5 true (.t 4)⟩,
          ⟨some 48, (some (18, false)), .call 89 [.t 47]⟩,
          ⟨some 49, (some (18, false)), .eqv true [1] (.t 46) (.t 48)⟩,
          ⟨some 50, none, .pick (.t 45) (.c (.d (.b true))) (.t 49)⟩] false [])
         (.keep [0, 3, 50] (.cond (.t 50)
          (.keep [] (.seq
          (.region [⟨some 2, none, .mov (.c (.d (.b false)))⟩] false [])
          (.ret)))
          (.skip)))))))))))))))
      (.keep [0, 3] (.region [⟨some 13, none, .mov (.t 3)⟩,
       ⟨some 14, none, .bin .add (.t 13) (.c (.d (.i .i64 1)))⟩,
       ⟨some 3, none, .mov (.t 14)⟩] false []))))
/-- spindle/spindlelaw2.IsaTells -/
def F90_spindlelaw2_IsaTells : SFn := ⟨1, true, true, [.tmp 2],
  .seq
   (.region [⟨some 2, none, .mov (.c (.d (.b false)))⟩] false [])
   (.keep [0] (.seq
   (.seq
    (.region [⟨some 3, none, .mov (.c (.d (.i .i64 0)))⟩] false [])
    (.keep [0, 3] (.block 0 (.loop [0, 3] true F90_spindlelaw2_IsaTells_b0))))
   (.keep [] (.seq
    (.region [⟨some 51, none, .call 25 []⟩,
     ⟨some 2, none, .mov (.t 51)⟩] false [])
    (.ret)))))⟩

def F117_spindlelaw2_within_b0 : SCode :=
  .seq
     (.seq
      (.region [⟨some 4, none, .mov (.t 3)⟩,
       ⟨some 5, none, .mov (.t 0)⟩,
       ⟨some 6, none, .len false (.t 5)⟩,
       ⟨some 7, none, .bin .lss (.t 4) (.t 6)⟩] false [])
      (.keep [0, 3, 7] (.cond (.t 7)
      (.skip)
      (.exit 0))))
     (.keep [0, 3] (.seq
      (.block 1 (.seq
       (.region [⟨some 10, none, .mov (.t 0)⟩,
        ⟨some 11, none, .mov (.t 3)⟩,
        ⟨some 12, none, .iaddr 1 (.t 10) (.t 11)⟩,
        ⟨some 13, none, .load 1 false (.t 12)⟩,
        ⟨some 14, none, .bin .lss (.t 13) (.c (.d (.i .i64 0)))⟩,
        ⟨some 15, none, .mov (.t 14)⟩,
        ⟨some 16, (some (5, false)), .mov (.t 0)⟩,
        ⟨some 17, (some (5, false)), .mov (.t 3)⟩,
        ⟨some 18, (some (5, false)), .iaddr 1 (.t 16) (.t 17)⟩,
        ⟨some 19, (some (5, false)), .load 1 false (.t 18)⟩,
        ⟨some 20, (some (5, false)), .bin .gtr (.t 19) (.c (.d (.i .i64 10)))⟩,
        ⟨some 21, none, .pick (.t 15) (.c (.d (.b true))) (.t 20)⟩,
        ⟨some 22, none, .mov (.t 21)⟩,
        ⟨some 23, (some (12, false)), .mov (.t 3)⟩,
        ⟨some 24, (some (12, false)), .bin .gtr (.t 23) (.c (.d (.i .i64 0)))⟩,
        ⟨some 25, (some (12, false)), .mov (.t 24)⟩,
        ⟨some 26, (some (15, true)), .mov (.t 0)⟩,
        ⟨some 27, (some (15, true)), .mov (.t 3)⟩,
        ⟨some 28, (some (15, true)), .bin .sub (.t 27) (.c (.d (.i .i64 1)))⟩,
        ⟨some 29, (some (15, true)), .iaddr 1 (.t 26) (.t 28)⟩,
        ⟨some 30, (some (15, true)), .load 1 false (.t 29)⟩,
        ⟨some 31, (some (15, true)), .mov (.t 0)⟩,
        ⟨some 32, (some (15, true)), .mov (.t 3)⟩,
        ⟨some 33, (some (15, true)), .iaddr 1 (.t 31) (.t 32)⟩,
        ⟨some 34, (some (15, true)), .load 1 false (.t 33)⟩,
        ⟨some 35, (some (15, true)), .bin .geq (.t 30) (.t 34)⟩,
        ⟨some 36, (some (12, false)), .pick (.t 25) (.t 35) (.c (.d (.b false)))⟩,
        ⟨some 37, none, .pick (.t 22) (.c (.d (.b true))) (.t 36)⟩] true [0, 0, 3, 7, 15, 31, 63, 63, 255, 511, 1023, 2047, 4095, 8191, 16383, 32767, 65535, 65535, 196607, 524287, 1048575, 65535, 65535, 6356991, 14745599, 33554431, 67108863, 134217727])
       (.keep [0, 3, 37] (.cond (.t 37)
       (.keep [] (.seq
        (.region [⟨some 2, none, .mov (.c (.d (.b false)))⟩] false [])
        (.ret)))
       (.skip)))))
      (.keep [0, 3] (.region [⟨some 8, none, .mov (.t 3)⟩,
       ⟨some 9, none, .bin .add (.t 8) (.c (.d (.i .i64 1)))⟩,
       ⟨some 3, none, .mov (.t 9)⟩] false []))))
/-- spindle/spindlelaw2.within -/
def F117_spindlelaw2_within : SFn := ⟨1, true, true, [.tmp 2],
  .seq
   (.region [⟨some 2, none, .mov (.c (.d (.b false)))⟩] false [])
   (.keep [0] (.seq
   (.seq
    (.region [⟨some 3, none, .mov (.c (.d (.i .i64 0)))⟩] false [])
    (.keep [0, 3] (.block 0 (.loop [0, 3] false F117_spindlelaw2_within_b0))))
   (.keep [] (.seq
    (.region [⟨some 2, none, .mov (.c (.d (.b true)))⟩] false [])
    (.ret)))))⟩

/-- spindle/spindlelaw2.fixed -/
def F118_spindlelaw2_fixed : SFn := ⟨3, true, true, [.tmp 6],
  .seq
   (.region [⟨some 6, none, .mov (.c (.d (.b false)))⟩] false [])
   (.keep [0, 1, 2] (.seq
   (.block 0 (.seq
    (.region [⟨some 8, none, .mov (.t 1)⟩,
     ⟨some 9, none, .bin .eql (.t 8) (.c (.d (.i .i64 1)))⟩,
     ⟨some 10, none, .mov (.t 9)⟩,
     ⟨some 11, (some (2, true)), .mov (.t 0)⟩,
     ⟨some 12, (some (2, true)), .bin .eql (.t 11) (.c (.d (.i .i64 133)))⟩,
     ⟨some 13, (some (2, true)), .mov (.t 12)⟩,
     ⟨some 14, (some (5, false)), .mov (.t 0)⟩,
     ⟨some 15, (some (5, false)), .bin .eql (.t 14) (.c (.d (.i .i64 24)))⟩,
     ⟨some 16, (some (2, true)), .pick (.t 13) (.c (.d (.b true))) (.t 15)⟩,
     ⟨some 17, none, .pick (.t 10) (.t 16) (.c (.d (.b false)))⟩,
     ⟨some 7, none, .mov (.t 17)⟩] false [])
    (.keep [0, 1, 2, 7] (.cond (.t 7)
     (.keep [2] (.seq
     (.region [⟨some 18, none, .mov (.t 2)⟩,
      ⟨some 19, none, .bin .eql (.t 18) (.c (.d (.i .i64 1)))⟩,
      ⟨some 6, none, .mov (.t 19)⟩] false [])
     (.ret)))
     (.keep [0, 1, 2] (.seq
     (.region [⟨some 21, none, .mov (.t 1)⟩,
      ⟨some 22, none, .bin .eql (.t 21) (.c (.d (.i .i64 2)))⟩,
      ⟨some 23, none, .mov (.t 22)⟩,
      ⟨some 24, (some (2, true)), .mov (.t 0)⟩,
      ⟨some 25, (some (2, true)), .bin .eql (.t 24) (.c (.d (.i .i64 55)))⟩,
      ⟨some 26, (some (2, true)), .mov (.t 25)⟩,
      ⟨some 27, (some (5, false)), .mov (.t 0)⟩,
      ⟨some 28, (some (5, false)), .bin .eql (.t 27) (.c (.d (.i .i64 63)))⟩,
      ⟨some 29, (some (2, true)), .pick (.t 26) (.c (.d (.b true))) (.t 28)⟩,
      ⟨some 30, (some (2, true)), .mov (.t 29)⟩,
      ⟨some 31, (some (9, false)), .mov (.t 0)⟩,
      ⟨some 32, (some (9, false)), .bin .eql (.t 31) (.c (.d (.i .i64 52)))⟩,
      ⟨some 33, (some (2, true)), .pick (.t 30) (.c (.d (.b true))) (.t 32)⟩,
      ⟨some 34, (some (2, true)), .mov (.t 33)⟩,
      ⟨some 35, (some (13, false)), .mov (.t 0)⟩,
      ⟨some 36, (some (13, false)), .bin .eql (.t 35) (.c (.d (.i .i64 60)))⟩,
      ⟨some 37, (some (2, true)), .pick (.t 34) (.c (.d (.b true))) (.t 36)⟩,
      ⟨some 38, (some (2, true)), .mov (.t 37)⟩,
      ⟨some 39, (some (17, false)), .mov (.t 0)⟩,
      ⟨some 40, (some (17, false)), .bin .eql (.t 39) (.c (.d (.i .i64 151)))⟩,
      ⟨some 41, (some (2, true)), .pick (.t 38) (.c (.d (.b true))) (.t 40)⟩,
      ⟨some 42, (some (2, true)), .mov (.t 41)⟩,
      ⟨some 43, (some (21, false)), .mov (.t 0)⟩,
      ⟨some 44, (some (21, false)), .bin .eql (.t 43) (.c (.d (.i .i64 159)))⟩,
      ⟨some 45, (some (2, true)), .pick (.t 42) (.c (.d (.b true))) (.t 44)⟩,
      ⟨some 46, (some (2, true)), .mov (.t 45)⟩,
      ⟨some 47, (some (25, false)), .mov (.t 0)⟩,
      ⟨some 48, (some (25, false)), .bin .eql (.t 47) (.c (.d (.i .i64 148)))⟩,
      ⟨some 49, (some (2, true)), .pick (.t 46) (.c (.d (.b true))) (.t 48)⟩,
      ⟨some 50, (some (2, true)), .mov (.t 49)⟩,
      ⟨some 51, (some (29, false)), .mov (.t 0)⟩,
      ⟨some 52, (some (29, false)), .bin .eql (.t 51) (.c (.d (.i .i64 156)))⟩,
      ⟨some 53, (some (2, true)), .pick (.t 50) (.c (.d (.b true))) (.t 52)⟩,
      ⟨some 54, none, .pick (.t 23) (.t 53) (.c (.d (.b false)))⟩,
      ⟨some 20, none, .mov (.t 54)⟩] false [])
     (.keep [0, 1, 2, 20] (.cond (.t 20)
      (.keep [2] (.seq
      (.region [⟨some 55, none, .mov (.t 2)⟩,
       ⟨some 56, none, .bin .eql (.t 55) (.c (.d (.i .i64 1)))⟩,
       ⟨some 6, none, .mov (.t 56)⟩] false [])
      (.ret)))
      (.keep [0, 1, 2] (.seq
      (.region [⟨some 58, none, .mov (.t 1)⟩,
       ⟨some 59, none, .bin .eql (.t 58) (.c (.d (.i .i64 2)))⟩,
       ⟨some 60, none, .mov (.t 59)⟩,
       ⟨some 61, (some (2, true)), .mov (.t 0)⟩,
       ⟨some 62, (some (2, true)), .bin .eql (.t 61) (.c (.d (.i .i64 191)))⟩,
       ⟨some 63, (some (2, true)), .mov (.t 62)⟩,
       ⟨some 64, (some (5, false)), .mov (.t 0)⟩,
       ⟨some 65, (some (5, false)), .bin .eql (.t 64) (.c (.d (.i .i64 188)))⟩,
       ⟨some 66, (some (2, true)), .pick (.t 63) (.c (.d (.b true))) (.t 65)⟩,
       ⟨some 67, none, .pick (.t 60) (.t 66) (.c (.d (.b false)))⟩,
       ⟨some 57, none, .mov (.t 67)⟩] false [])
      (.keep [0, 1, 2, 57] (.cond (.t 57)
       (.keep [0, 2] (.seq
       (.region [⟨some 68, none, .mov (.t 2)⟩,
        ⟨some 69, none, .bin .eql (.t 68) (.c (.d (.i .i64 8)))⟩,
        ⟨some 70, none, .mov (.t 69)⟩,
        ⟨some 71, (some (2, false)), .mov (.t 2)⟩,
        ⟨some 72, (some (2, false)), .bin .eql (.t 71) (.c (.d (.i .i64 16)))⟩,
        ⟨some 73, none, .pick (.t 70) (.c (.d (.b true))) (.t 72)⟩,
        ⟨some 74, none, .mov (.t 73)⟩,
        ⟨some 75, (some (6, false)), .mov (.t 2)⟩,
        ⟨some 76, (some (6, false)), .bin .eql (.t 75) (.c (.d (.i .i64 32)))⟩,
        ⟨some 77, (some (6, false)), .mov (.t 76)⟩,
        ⟨some 78, (some (9, true)), .mov (.t 0)⟩,
        ⟨some 79, (some (9, true)), .bin .eql (.t 78) (.c (.d (.i .i64 191)))⟩,
        ⟨some 80, (some (6, false)), .pick (.t 77) (.t 79) (.c (.d (.b false)))⟩,
        ⟨some 81, none, .pick (.t 74) (.c (.d (.b true))) (.t 80)⟩,
        ⟨some 6, none, .mov (.t 81)⟩] false [])
       (.ret)))
       (.keep [0, 1, 2] (.seq
       (.region [⟨some 83, none, .mov (.t 1)⟩,
        ⟨some 84, none, .bin .eql (.t 83) (.c (.d (.i .i64 3)))⟩,
        ⟨some 85, none, .mov (.t 84)⟩,
        ⟨some 86, (some (2, true)), .mov (.t 0)⟩,
        ⟨some 87, (some (2, true)), .bin .eql (.t 86) (.c (.d (.i .i64 212)))⟩,
        ⟨some 88, (some (2, true)), .mov (.t 87)⟩,
        ⟨some 89, (some (5, false)), .mov (.t 0)⟩,
        ⟨some 90, (some (5, false)), .bin .eql (.t 89) (.c (.d (.i .i64 220)))⟩,
        ⟨some 91, (some (2, true)), .pick (.t 88) (.c (.d (.b true))) (.t 90)⟩,
        ⟨some 92, (some (2, true)), .mov (.t 91)⟩,
        ⟨some 93, (some (9, false)), .mov (.t 0)⟩,
        ⟨some 94, (some (9, false)), .bin .eql (.t 93) (.c (.d (.i .i64 215)))⟩,
        ⟨some 95, (some (2, true)), .pick (.t 92) (.c (.d (.b true))) (.t 94)⟩,
        ⟨some 96, none, .pick (.t 85) (.t 95) (.c (.d (.b false)))⟩,
        ⟨some 82, none, .mov (.t 96)⟩] false [])
       (.keep [0, 1, 2, 82] (.cond (.t 82)
        (.keep [2] (.seq
        (.region [⟨some 97, none, .mov (.t 2)⟩,
         ⟨some 98, none, .bin .eql (.t 97) (.c (.d (.i .i64 16)))⟩,
         ⟨some 99, none, .mov (.t 98)⟩,
         ⟨some 100, (some (2, false)), .mov (.t 2)⟩,
         ⟨some 101, (some (2, false)), .bin .eql (.t 100) (.c (.d (.i .i64 32)))⟩,
         ⟨some 102, none, .pick (.t 99) (.c (.d (.b true))) (.t 101)⟩,
         ⟨some 103, none, .mov (.t 102)⟩,
         ⟨some 104, (some (6, false)), .mov (.t 2)⟩,
         ⟨some 105, (some (6, false)), .bin .eql (.t 104) (.c (.d (.i .i64 64)))⟩,
         ⟨some 106, none, .pick (.t 103) (.c (.d (.b true))) (.t 105)⟩,
         ⟨some 6, none, .mov (.t 106)⟩] false [])
        (.ret)))
        (.keep [0, 1, 2] (.seq
        (.region [⟨some 108, none, .mov (.t 1)⟩,
         ⟨some 109, none, .bin .eql (.t 108) (.c (.d (.i .i64 3)))⟩,
         ⟨some 110, none, .mov (.t 109)⟩,
         ⟨some 111, (some (2, true)), .mov (.t 0)⟩,
         ⟨some 112, (some (2, true)), .bin .eql (.t 111) (.c (.d (.i .i64 219)))⟩,
         ⟨some 113, (some (2, true)), .mov (.t 112)⟩,
         ⟨some 114, (some (5, false)), .mov (.t 0)⟩,
         ⟨some 115, (some (5, false)), .bin .eql (.t 114) (.c (.d (.i .i64 195)))⟩,
         ⟨some 116, (some (2, true)), .pick (.t 113) (.c (.d (.b true))) (.t 115)⟩,
         ⟨some 117, none, .pick (.t 110) (.t 116) (.c (.d (.b false)))⟩,
         ⟨some 107, none, .mov (.t 117)⟩] false [])
        (.keep [2, 107] (.cond (.t 107)
         (.keep [2] (.seq
         (.region [⟨some 118, none, .mov (.t 2)⟩,
          ⟨some 119, none, .bin .eql (.t 118) (.c (.d (.i .i64 64)))⟩,
          ⟨some 120, none, .mov (.t 119)⟩,
          ⟨some 121, (some (2, false)), .mov (.t 2)⟩,
          ⟨some 122, (some (2, false)), .bin .eql (.t 121) (.c (.d (.i .i64 80)))⟩,
          ⟨some 123, none, .pick (.t 120) (.c (.d (.b true))) (.t 122)⟩,
          ⟨some 124, none, .mov (.t 123)⟩,
          ⟨some 125, (some (6, false)), .mov (.t 2)⟩,
          ⟨some 126, (some (6, false)), .bin .eql (.t 125) (.c (.d (.i .i64 160)))⟩,
          ⟨some 127, none, .pick (.t 124) (.c (.d (.b true))) (.t 126)⟩,
          ⟨some 128, none, .mov (.t 127)⟩,
          ⟨some 129, (some (10, false)), .mov (.t 2)⟩,
          ⟨some 130, (some (10, false)), .bin .eql (.t 129) (.c (.d (.i .i64 1)))⟩,
          ⟨some 131, none, .pick (.t 128) (.c (.d (.b true))) (.t 130)⟩,
          ⟨some 132, none, .mov (.t 131)⟩,
          ⟨some 133, (some (14, false)), .mov (.t 2)⟩,
          ⟨some 134, (some (14, false)), .bin .eql (.t 133) (.c (.d (.i .i64 65)))⟩,
          ⟨some 135, none, .pick (.t 132) (.c (.d (.b true))) (.t 134)⟩,
          ⟨some 136, none, .mov (.t 135)⟩,
          ⟨some 137, (some (18, false)), .mov (.t 2)⟩,
          ⟨some 138, (some (18, false)), .bin .eql (.t 137) (.c (.d (.i .i64 81)))⟩,
          ⟨some 139, none, .pick (.t 136) (.c (.d (.b true))) (.t 138)⟩,
          ⟨some 140, none, .mov (.t 139)⟩,
          ⟨some 141, (some (22, false)), .mov (.t 2)⟩,
          ⟨some 142, (some (22, false)), .bin .eql (.t 141) (.c (.d (.i .i64 161)))⟩,
          ⟨some 143, none, .pick (.t 140) (.c (.d (.b true))) (.t 142)⟩,
          ⟨some 144, none, .mov (.t 143)⟩,
          ⟨some 145, (some (26, false)), .mov (.t 2)⟩,
          ⟨some 146, (some (26, false)), .bin .eql (.t 145) (.c (.d (.i .i64 225)))⟩,
          ⟨some 147, none, .pick (.t 144) (.c (.d (.b true))) (.t 146)⟩,
          ⟨some 148, none, .mov (.t 147)⟩,
          ⟨some 149, (some (30, false)), .mov (.t 2)⟩,
          ⟨some 150, (some (30, false)), .bin .eql (.t 149) (.c (.d (.i .i64 241)))⟩,
          ⟨some 151, none, .pick (.t 148) (.c (.d (.b true))) (.t 150)⟩,
          ⟨some 6, none, .mov (.t 151)⟩] false [])
         (.ret)))
         (.skip)))))))))))))))))))))
   (.keep [] (.seq
    (.region [⟨some 6, none, .mov (.c (.d (.b false)))⟩] false [])
    (.ret)))))⟩

/-- spindle/spindlelaw2.IsaRow -/
def F119_spindlelaw2_IsaRow : SFn := ⟨3, true, true, [.tmp 6],
  .seq
   (.region [⟨some 3, none, .box (.t 0)⟩,
    ⟨some 6, none, .mov (.c (.d (.b false)))⟩] false [])
   (.keep [1, 2, 3] (.seq
   (.region [⟨some 14, none, .load 5 true (.t 3)⟩,
    ⟨some 15, none, .call 27 [.t 14]⟩,
    ⟨some 7, none, .mov (.t 15)⟩] false [])
   (.keep [1, 2, 3, 7] (.seq
    (.seq
    (.region [⟨some 16, none, .mov (.t 7)⟩,
     ⟨some 17, none, .bin .neq (.t 16) (.c (.d (.i .i64 0)))⟩] false [])
    (.keep [1, 2, 3, 7, 17] (.cond (.t 17)
     (.keep [7] (.seq
     (.region [⟨some 18, none, .call 25 []⟩,
      ⟨some 19, none, .mov (.t 18)⟩,
      ⟨some 20, (some (1, true)), .mov (.t 7)⟩,
      ⟨some 21, (some (1, true)), .bin .eql (.t 20) (.c (.d (.i .i64 20)))⟩,
      ⟨some 22, (some (1, true)), .mov (.t 21)⟩,
      ⟨some 23, (some (4, false)), .mov (.t 7)⟩,
      ⟨some 24, (some (4, false)), .bin .eql (.t 23) (.c (.d (.i .i64 21)))⟩,
      ⟨some 25, (some (1, true)), .pick (.t 22) (.c (.d (.b true))) (.t 24)⟩,
      ⟨some 26, none, .pick (.t 19) (.t 25) (.c (.d (.b false)))⟩,
      ⟨some 6, none, .mov (.t 26)⟩] false [])
     (.ret)))
     (.skip))))
    (.keep [1, 2, 3] (.seq
    (.region [⟨some 28, none, .faddr 0 (.t 3)⟩,
     ⟨some 29, none, .load 1 false (.t 28)⟩,
     ⟨some 30, none, .call 11 [.t 29]⟩,
     ⟨some 27, none, .mov (.t 30)⟩,
     ⟨some 31, none, .extract 0 (.t 27)⟩,
     ⟨some 32, none, .extract 1 (.t 27)⟩,
     ⟨some 8, none, .alloc [.i .i64 0, .i .i64 0, .b false, .b false, .b false, .b false]⟩,
     ⟨none, none, .store 6 (.t 8) (.t 31)⟩,
     ⟨some 9, none, .mov (.t 32)⟩] false [])
    (.keep [1, 2, 3, 8, 9] (.seq
     (.region [⟨some 33, none, .load 5 true (.t 3)⟩,
      ⟨some 34, none, .call 82 [.t 33]⟩,
      ⟨some 10, none, .mov (.t 34)⟩] false [])
     (.keep [1, 2, 3, 8, 9, 10] (.seq
     (.region [⟨some 35, none, .load 5 true (.t 3)⟩,
      ⟨some 36, none, .call 83 [.t 35]⟩,
      ⟨some 11, none, .mov (.t 36)⟩] false [])
     (.keep [1, 2, 3, 8, 9, 10, 11] (.seq
      (.seq
      (.region [⟨some 37, none, .mov (.t 9)⟩,
       ⟨some 38, none, .bin .neq (.t 37) (.c (.d (.i .i64 0)))⟩,
       ⟨some 39, none, .mov (.t 38)⟩,
       ⟨some 40, (some (2, false)), .mov (.t 10)⟩,
       ⟨some 41, (some (2, false)), .call 117 [.t 40]⟩,
       ⟨some 42, (some (2, false)), .un .not (.t 41)⟩,
       ⟨some 43, none, .pick (.t 39) (.c (.d (.b true))) (.t 42)⟩,
       ⟨some 44, none, .mov (.t 43)⟩,
       ⟨some 45, (some (7, false)), .mov (.t 11)⟩,
       ⟨some 46, (some (7, false)), .call 117 [.t 45]⟩,
       ⟨some 47, (some (7, false)), .un .not (.t 46)⟩,
       ⟨some 48, none, .pick (.t 44) (.c (.d (.b true))) (.t 47)⟩] false [])
      (.keep [1, 2, 3, 8, 48] (.cond (.t 48)
       (.keep [] (.seq
       (.region [⟨some 6, none, .mov (.c (.d (.b false)))⟩] false [])
       (.ret)))
       (.skip))))
      (.keep [1, 2, 3, 8] (.seq
      (.region [⟨some 49, none, .mov (.t 1)⟩,
       ⟨some 50, none, .bin .and (.t 49) (.c (.d (.i .i64 3)))⟩,
       ⟨some 1, none, .mov (.t 50)⟩] false [])
      (.keep [1, 2, 3, 8] (.seq
       (.region [⟨some 51, none, .faddr 2 (.t 8)⟩,
        ⟨some 52, none, .load 1 false (.t 51)⟩,
        ⟨some 53, none, .faddr 3 (.t 8)⟩,
        ⟨some 54, none, .load 1 false (.t 53)⟩,
        ⟨some 55, none, .faddr 4 (.t 8)⟩,
        ⟨some 56, none, .load 1 false (.t 55)⟩,
        ⟨some 57, none, .faddr 5 (.t 8)⟩,
        ⟨some 58, none, .load 1 false (.t 57)⟩,
        ⟨some 59, none, .build [.b false, .b false, .b false, .b false] [(0, 1, .t 52), (1, 1, .t 54), (2, 1, .t 56), (3, 1, .t 58)]⟩,
        ⟨some 12, none, .alloc [.b false, .b false, .b false, .b false]⟩,
        ⟨none, none, .store 4 (.t 12) (.t 59)⟩] false [])
       (.keep [1, 2, 3, 12] (.seq
       (.seq
        (.region [⟨some 60, none, .mov (.t 1)⟩,
         ⟨some 61, none, .iaddrA 4 1 (.t 12) (.t 60)⟩,
         ⟨some 62, none, .load 1 false (.t 61)⟩,
         ⟨some 63, none, .mov (.t 62)⟩,
         ⟨some 64, (some (3, false)), .mov (.t 2)⟩,
         ⟨some 65, (some (3, false)), .bin .eql (.t 64) (.c (.d (.i .i64 0)))⟩,
         ⟨some 66, none, .pick (.t 63) (.c (.d (.b true))) (.t 65)⟩,
         ⟨some 67, none, .mov (.t 66)⟩,
         ⟨some 68, (some (7, false)), .faddr 0 (.t 3)⟩,
         ⟨some 69, (some (7, false)), .load 1 false (.t 68)⟩,
         ⟨some 70, (some (7, false)), .mov (.t 1)⟩,
         ⟨some 71, (some (7, false)), .mov (.t 2)⟩,
         ⟨some 72, (some (7, false)), .call 118 [.t 69, .t 70, .t 71]⟩,
         ⟨some 73, none, .pick (.t 67) (.c (.d (.b true))) (.t 72)⟩] false [])
        (.keep [1, 2, 3, 73] (.cond (.t 73)
        (.keep [] (.seq
         (.region [⟨some 74, none, .call 25 []⟩,
          ⟨some 6, none, .mov (.t 74)⟩] false [])
         (.ret)))
        (.skip))))
       (.keep [1, 2, 3] (.seq
        (.region [⟨some 75, none, .load 5 true (.t 3)⟩,
         ⟨some 13, none, .alloc [.i .i64 0, .i .i64 0, .i .i64 0, .i .i64 0, .i .i64 0]⟩,
         ⟨none, none, .store 5 (.t 13) (.t 75)⟩] false [])
        (.keep [1, 2, 13] (.seq
        (.seq
         (.region [⟨some 76, none, .mov (.t 1)⟩] false [])
         (.keep [2, 13, 76] (.block 0 (.seq
          (.region [⟨some 80, none, .bin .eql (.t 76) (.c (.d (.i .i64 0)))⟩,
           ⟨some 79, none, .mov (.t 80)⟩] false [])
          (.keep [2, 13, 76, 79] (.cond (.t 79)
          (.keep [2, 13] (.region [⟨some 81, none, .mov (.t 2)⟩,
           ⟨some 82, none, .faddr 1 (.t 13)⟩,
           ⟨none, none, .store 1 (.t 82) (.t 81)⟩] false []))
          (.keep [2, 13, 76] (.seq
           (.region [⟨some 84, none, .bin .eql (.t 76) (.c (.d (.i .i64 1)))⟩,
            ⟨some 83, none, .mov (.t 84)⟩] false [])
           (.keep [2, 13, 76, 83] (.cond (.t 83)
           (.keep [2, 13] (.region [⟨some 85, none, .mov (.t 2)⟩,
            ⟨some 86, none, .faddr 2 (.t 13)⟩,
            ⟨none, none, .store 1 (.t 86) (.t 85)⟩] false []))
           (.keep [2, 13, 76] (.seq
            (.region [⟨some 88, none, .bin .eql (.t 76) (.c (.d (.i .i64 2)))⟩,
             ⟨some 87, none, .mov (.t 88)⟩] false [])
            (.keep [2, 13, 87] (.cond (.t 87)
            (.keep [2, 13] (.region [⟨some 89, none, .mov (.t 2)⟩,
             ⟨some 90, none, .faddr 3 (.t 13)⟩,
             ⟨none, none, .store 1 (.t 90) (.t 89)⟩] false []))
            (.keep [2, 13] (.region [⟨some 77, none, .mov (.t 2)⟩,
             ⟨some 78, none, .faddr 4 (.t 13)⟩,
             ⟨none, none, .store 1 (.t 78) (.t 77)⟩] false []))))))))))))))))
        (.keep [13] (.seq
         (.region [⟨some 91, none, .load 5 true (.t 13)⟩,
          ⟨some 92, none, .call 27 [.t 91]⟩,
          ⟨some 7, none, .mov (.t 92)⟩] false [])
         (.keep [7] (.seq
         (.region [⟨some 93, none, .call 25 []⟩,
          ⟨some 94, none, .mov (.t 93)⟩,
          ⟨some 95, (some (1, true)), .mov (.t 7)⟩,
          ⟨some 96, (some (1, true)), .bin .eql (.t 95) (.c (.d (.i .i64 21)))⟩,
          ⟨some 97, none, .pick (.t 94) (.t 96) (.c (.d (.b false)))⟩,
          ⟨some 6, none, .mov (.t 97)⟩] false [])
         (.ret)))))))))))))))))))))))))))⟩
end Go.Sh
