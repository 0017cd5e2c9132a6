/- Shadow functions of law10, written by tr.py. -/
import Derived.Test.YtnemobbnlacmjaaShBa
namespace Go.Sh
/-- spindle/spindlelaw10.awake -/
def F30_spindlelaw10_awake : SFn := ⟨0, true, true, [.tmp 0],
  .seq
   (.region [⟨some 0, none, .mov (.c (.d (.b false)))⟩] false [])
   (.keep [] (.seq
   (.region [⟨some 10, none, .build [.i .i64 0, .i .i64 0, .i .i64 0, .i .i64 0, .i .i64 0, .i .i64 0] [(0, 1, .c (.d (.i .i64 258))), (1, 1, .c (.d (.i .i64 1)))]⟩,
    ⟨some 11, none, .lits 1 [.i .i64 0, .i .i64 0, .i .i64 0, .i .i64 0, .i .i64 0, .i .i64 0] [(0, 6, .t 10)]⟩,
    ⟨some 12, none, .call 31 [.t 11]⟩,
    ⟨some 9, none, .mov (.t 12)⟩,
    ⟨some 13, none, .extract 0 (.t 9)⟩,
    ⟨some 14, none, .extract 1 (.t 9)⟩,
    ⟨some 1, none, .mov (.t 13)⟩,
    ⟨some 2, none, .mov (.t 14)⟩] false [])
   (.keep [1, 2] (.seq
    (.seq
    (.region [⟨some 15, none, .mov (.t 2)⟩,
     ⟨some 16, none, .call 12 [.t 15]⟩,
     ⟨some 17, none, .bin .neq (.t 16) (.c (.d (.i .i64 0)))⟩,
     ⟨some 18, none, .mov (.t 17)⟩,
     ⟨some 19, (some (3, false)), .mov (.t 1)⟩,
     ⟨some 20, (some (3, false)), .b2s (.t 19)⟩,
     ⟨some 21, (some (3, false)), .mkD 1 [.i .u8 0] (.c (.d (.i .i64 24))) (.c (.d (.i .i64 24)))⟩,
     ⟨some 22, (some (3, false)), .b2s (.t 21)⟩,
     ⟨some 23, (some (3, false)), .bin .add (.t 22) (.c (.d (.s [2, 1, 0, 0, 16])))⟩,
     ⟨some 24, (some (3, false)), .mkD 1 [.i .u8 0] (.c (.d (.i .i64 19))) (.c (.d (.i .i64 19)))⟩,
     ⟨some 25, (some (3, false)), .b2s (.t 24)⟩,
     ⟨some 26, (some (3, false)), .bin .add (.t 23) (.t 25)⟩,
     ⟨some 27, (some (3, false)), .bin .neq (.t 20) (.t 26)⟩,
     ⟨some 28, none, .pick (.t 18) (.c (.d (.b true))) (.t 27)⟩] true [0, 1, 3, 7, 15, 31, 15, 79, 207, 15, 527, 1999, 4095, 8191])
    (.keep [28] (.cond (.t 28)
     (.keep [] (.seq
     (.region [⟨some 0, none, .mov (.c (.d (.b false)))⟩] false [])
     (.ret)))
     (.skip))))
    (.keep [] (.seq
    (.region [⟨some 30, none, .mkD 1 [.i .u8 0] (.c (.d (.i .i64 24))) (.c (.d (.i .i64 24)))⟩,
     ⟨some 31, none, .call 32 [.t 30]⟩,
     ⟨some 29, none, .mov (.t 31)⟩,
     ⟨some 32, none, .extract 0 (.t 29)⟩,
     ⟨some 33, none, .extract 1 (.t 29)⟩,
     ⟨some 34, none, .extract 2 (.t 29)⟩,
     ⟨some 3, none, .mov (.t 32)⟩,
     ⟨some 4, none, .mov (.t 33)⟩,
     ⟨some 5, none, .mov (.t 34)⟩] false [])
    (.keep [3, 4, 5] (.seq
     (.region [⟨some 36, none, .mkD 1 [.i .u8 0] (.c (.d (.i .i64 48))) (.c (.d (.i .i64 48)))⟩,
      ⟨some 37, none, .call 32 [.t 36]⟩,
      ⟨some 35, none, .mov (.t 37)⟩,
      ⟨some 38, none, .extract 0 (.t 35)⟩,
      ⟨some 39, none, .extract 1 (.t 35)⟩,
      ⟨some 40, none, .extract 2 (.t 35)⟩,
      ⟨some 6, none, .mov (.t 38)⟩,
      ⟨some 7, none, .mov (.t 39)⟩,
      ⟨some 8, none, .mov (.t 40)⟩] false [])
     (.keep [3, 4, 5, 7, 8] (.seq
     (.region [⟨some 41, none, .mov (.t 5)⟩,
      ⟨some 42, none, .call 12 [.t 41]⟩,
      ⟨some 43, none, .bin .eql (.t 42) (.c (.d (.i .i64 0)))⟩,
      ⟨some 44, none, .mov (.t 43)⟩,
      ⟨some 45, (some (3, true)), .mov (.t 3)⟩,
      ⟨some 46, (some (3, true)), .len false (.t 45)⟩,
      ⟨some 47, (some (3, true)), .bin .eql (.t 46) (.c (.d (.i .i64 0)))⟩,
      ⟨some 48, none, .pick (.t 44) (.t 47) (.c (.d (.b false)))⟩,
      ⟨some 49, none, .mov (.t 48)⟩,
      ⟨some 50, (some (8, true)), .mov (.t 4)⟩,
      ⟨some 51, (some (8, true)), .bin .eql (.t 50) (.c (.d (.i .i64 0)))⟩,
      ⟨some 52, none, .pick (.t 49) (.t 51) (.c (.d (.b false)))⟩,
      ⟨some 53, none, .mov (.t 52)⟩,
      ⟨some 54, (some (12, true)), .mov (.t 8)⟩,
      ⟨some 55, (some (12, true)), .call 12 [.t 54]⟩,
      ⟨some 56, (some (12, true)), .bin .eql (.t 55) (.c (.d (.i .i64 100)))⟩,
      ⟨some 57, none, .pick (.t 53) (.t 56) (.c (.d (.b false)))⟩,
      ⟨some 58, none, .mov (.t 57)⟩,
      ⟨some 59, (some (17, true)), .mov (.t 7)⟩,
      ⟨some 60, (some (17, true)), .bin .eql (.t 59) (.c (.d (.i .i64 28)))⟩,
      ⟨some 61, none, .pick (.t 58) (.t 60) (.c (.d (.b false)))⟩,
      ⟨some 0, none, .mov (.t 61)⟩] false [])
     (.ret)))))))))))⟩

def F33_spindlelaw10_sameSymbols_b0 : SCode :=
  .seq
      (.seq
      (.region [⟨some 11, none, .mov (.t 5)⟩,
       ⟨some 12, none, .mov (.t 0)⟩,
       ⟨some 13, none, .len false (.t 12)⟩,
       ⟨some 14, none, .bin .lss (.t 11) (.t 13)⟩] false [])
      (.keep [0, 1, 5, 14] (.cond (.t 14)
       (.skip)
       (.exit 0))))
      (.keep [0, 1, 5] (.seq
      (.block 1 (.seq
       (.region [⟨some 17, none, .mov (.t 0)⟩,
        ⟨some 18, none, .mov (.t 5)⟩,
        ⟨some 19, none, .iaddr 6 (.t 17) (.t 18)⟩,
        ⟨some 20, none, .load 6 true (.t 19)⟩,
        ⟨some 21, none, .mov (.t 1)⟩,
        ⟨some 22, none, .mov (.t 5)⟩,
        ⟨some 23, none, .iaddr 6 (.t 21) (.t 22)⟩,
        ⟨some 24, none, .load 6 true (.t 23)⟩,
        ⟨some 25, none, .eqv true [9, 0, 0, 0, 0, 0, 0] (.t 20) (.t 24)⟩] true [0, 0, 3, 7, 0, 0, 48, 112, 255])
       (.keep [0, 1, 5, 25] (.cond (.t 25)
        (.keep [] (.seq
        (.region [⟨some 4, none, .mov (.c (.d (.b false)))⟩] false [])
        (.ret)))
        (.skip)))))
      (.keep [0, 1, 5] (.region [⟨some 15, none, .mov (.t 5)⟩,
       ⟨some 16, none, .bin .add (.t 15) (.c (.d (.i .i64 1)))⟩,
       ⟨some 5, none, .mov (.t 16)⟩] false []))))
/-- spindle/spindlelaw10.sameSymbols -/
def F33_spindlelaw10_sameSymbols : SFn := ⟨2, true, true, [.tmp 4],
  .seq
   (.region [⟨some 4, none, .mov (.c (.d (.b false)))⟩] false [])
   (.keep [0, 1] (.seq
   (.seq
    (.region [⟨some 6, none, .mov (.t 0)⟩,
     ⟨some 7, none, .len false (.t 6)⟩,
     ⟨some 8, none, .mov (.t 1)⟩,
     ⟨some 9, none, .len false (.t 8)⟩,
     ⟨some 10, none, .bin .neq (.t 7) (.t 9)⟩] false [])
    (.keep [0, 1, 10] (.cond (.t 10)
    (.keep [] (.seq
     (.region [⟨some 4, none, .mov (.c (.d (.b false)))⟩] false [])
     (.ret)))
    (.skip))))
   (.keep [0, 1] (.seq
    (.seq
    (.region [⟨some 5, none, .mov (.c (.d (.i .i64 0)))⟩] false [])
    (.keep [0, 1, 5] (.block 0 (.loop [0, 1, 5] false F33_spindlelaw10_sameSymbols_b0))))
    (.keep [] (.seq
    (.region [⟨some 4, none, .mov (.c (.d (.b true)))⟩] false [])
    (.ret)))))))⟩

/-- spindle/spindlelaw10.reads -/
def F203_spindlelaw10_reads : SFn := ⟨3, false, false, [.tmp 6],
  .seq
   (.region [⟨some 6, none, .mov (.c (.d (.b false)))⟩] false [])
   (.keep [0, 1, 2] (.seq
   (.region [⟨some 14, none, .mov (.t 0)⟩,
    ⟨some 15, none, .call 42 [.t 14]⟩,
    ⟨some 13, none, .mov (.t 15)⟩,
    ⟨some 16, none, .extract 0 (.t 13)⟩,
    ⟨some 17, none, .extract 1 (.t 13)⟩,
    ⟨some 18, none, .extract 2 (.t 13)⟩,
    ⟨some 7, none, .mov (.t 16)⟩,
    ⟨some 8, none, .mov (.t 17)⟩,
    ⟨some 9, none, .mov (.t 18)⟩] false [])
   (.keep [0, 1, 2, 7, 8, 9] (.seq
    (.region [⟨some 20, none, .mov (.t 1)⟩,
     ⟨some 21, none, .mov (.t 0)⟩,
     ⟨some 22, none, .call 169 [.t 20, .t 21]⟩,
     ⟨some 23, none, .call 32 [.t 22]⟩,
     ⟨some 19, none, .mov (.t 23)⟩,
     ⟨some 24, none, .extract 0 (.t 19)⟩,
     ⟨some 25, none, .extract 1 (.t 19)⟩,
     ⟨some 26, none, .extract 2 (.t 19)⟩,
     ⟨some 10, none, .mov (.t 24)⟩,
     ⟨some 11, none, .mov (.t 25)⟩,
     ⟨some 12, none, .mov (.t 26)⟩] false [])
    (.keep [0, 1, 2, 7, 8, 9, 10, 11, 12] (.seq
    (.seq
     (.region [⟨some 27, none, .mov (.t 12)⟩,
      ⟨some 28, none, .call 12 [.t 27]⟩,
      ⟨some 29, none, .mov (.t 9)⟩,
      ⟨some 30, none, .bin .neq (.t 28) (.t 29)⟩,
      ⟨some 31, none, .mov (.t 30)⟩,
      ⟨some 32, (some (4, false)), .mov (.t 11)⟩,
      ⟨some 33, (some (4, false)), .mov (.t 8)⟩,
      ⟨some 34, (some (4, false)), .bin .neq (.t 32) (.t 33)⟩,
      ⟨some 35, none, .pick (.t 31) (.c (.d (.b true))) (.t 34)⟩,
      ⟨some 36, none, .mov (.t 35)⟩,
      ⟨some 37, (some (9, false)), .mov (.t 10)⟩,
      ⟨some 38, (some (9, false)), .mov (.t 7)⟩,
      ⟨some 39, (some (9, false)), .call 33 [.t 37, .t 38]⟩,
      ⟨some 40, (some (9, false)), .un .not (.t 39)⟩,
      ⟨some 41, none, .pick (.t 36) (.c (.d (.b true))) (.t 40)⟩,
      ⟨some 42, none, .mov (.t 41)⟩,
      ⟨some 43, (some (15, false)), .mov (.t 1)⟩,
      ⟨some 44, (some (15, false)), .mov (.t 0)⟩,
      ⟨some 45, (some (15, false)), .call 170 [.t 43, .t 44]⟩,
      ⟨some 46, (some (15, false)), .un .not (.t 45)⟩,
      ⟨some 47, none, .pick (.t 42) (.c (.d (.b true))) (.t 46)⟩] false [])
     (.keep [2, 10, 47] (.cond (.t 47)
     (.keep [] (.seq
      (.region [⟨some 6, none, .mov (.c (.d (.b false)))⟩] false [])
      (.ret)))
     (.skip))))
    (.keep [2, 10] (.seq
     (.region [⟨some 48, none, .mov (.t 2)⟩,
      ⟨some 49, none, .mov (.t 10)⟩,
      ⟨some 50, none, .call 206 [.t 48, .t 49]⟩] false [])
     (.keep [2] (.seq
     (.region [⟨some 51, none, .mov (.t 2)⟩,
      ⟨some 52, none, .call 205 [.t 51]⟩,
      ⟨some 6, none, .mov (.t 52)⟩] false [])
     (.ret)))))))))))⟩

def F204_spindlelaw10_SymtabReads_b0 : SCode :=
  .seq
       (.seq
       (.region [⟨some 13, none, .mov (.t 5)⟩,
        ⟨some 14, none, .mov (.t 0)⟩,
        ⟨some 15, none, .len false (.t 14)⟩,
        ⟨some 16, none, .bin .lss (.t 13) (.t 15)⟩] false [])
       (.keep [0, 3, 4, 5, 16] (.cond (.t 16)
        (.skip)
        (.exit 0))))
       (.keep [0, 3, 4, 5] (.seq
       (.block 1 (.seq
        (.region [⟨some 19, none, .mov (.t 0)⟩,
         ⟨some 20, none, .mov (.t 5)⟩,
         ⟨some 21, none, .iaddr 1 (.t 19) (.t 20)⟩,
         ⟨some 22, none, .load 1 false (.t 21)⟩,
         ⟨some 23, none, .call 225 [.t 22]⟩,
         ⟨some 6, none, .mov (.t 23)⟩] false [])
        (.keep [0, 3, 4, 5, 6] (.seq
         (.seq
         (.region [⟨some 24, none, .mov (.t 6)⟩,
          ⟨some 25, none, .len false (.t 24)⟩,
          ⟨some 26, none, .bin .gtr (.t 25) (.c (.d (.i .i64 0)))⟩] false [])
         (.keep [0, 3, 4, 5, 6, 26] (.cond (.t 26)
          (.keep [0, 3, 4, 5, 6] (.region [⟨some 27, none, .mov (.t 6)⟩,
           ⟨some 28, none, .mov (.t 6)⟩,
           ⟨some 29, none, .len false (.t 28)⟩,
           ⟨some 30, none, .bin .sub (.t 29) (.c (.d (.i .i64 1)))⟩,
           ⟨some 31, none, .mov (.t 6)⟩,
           ⟨some 32, none, .mov (.t 6)⟩,
           ⟨some 33, none, .len false (.t 32)⟩,
           ⟨some 34, none, .bin .sub (.t 33) (.c (.d (.i .i64 1)))⟩,
           ⟨some 35, none, .iaddr 1 (.t 31) (.t 34)⟩,
           ⟨some 36, none, .load 1 false (.t 35)⟩,
           ⟨some 37, none, .bin .xor (.t 36) (.c (.d (.i .u8 8)))⟩,
           ⟨some 38, none, .iaddr 1 (.t 27) (.t 30)⟩,
           ⟨none, none, .store 1 (.t 38) (.t 37)⟩] false []))
          (.skip))))
         (.keep [0, 3, 4, 5, 6] (.seq
         (.region [⟨some 39, none, .mov (.t 0)⟩,
          ⟨some 40, none, .mov (.t 5)⟩,
          ⟨some 41, none, .iaddr 1 (.t 39) (.t 40)⟩,
          ⟨some 42, none, .load 1 false (.t 41)⟩,
          ⟨some 43, none, .mov (.t 3)⟩,
          ⟨some 44, none, .mov (.t 4)⟩,
          ⟨some 45, none, .call 203 [.t 42, .t 43, .t 44]⟩,
          ⟨some 46, none, .un .not (.t 45)⟩,
          ⟨some 47, none, .mov (.t 46)⟩,
          ⟨some 48, (some (8, false)), .mov (.t 0)⟩,
          ⟨some 49, (some (8, false)), .mov (.t 5)⟩,
          ⟨some 50, (some (8, false)), .iaddr 1 (.t 48) (.t 49)⟩,
          ⟨some 51, (some (8, false)), .load 1 false (.t 50)⟩,
          ⟨some 52, (some (8, false)), .mov (.t 3)⟩,
          ⟨some 53, (some (8, false)), .mov (.t 4)⟩,
          ⟨some 54, (some (8, false)), .call 203 [.t 51, .t 52, .t 53]⟩,
          ⟨some 55, (some (8, false)), .un .not (.t 54)⟩,
          ⟨some 56, none, .pick (.t 47) (.c (.d (.b true))) (.t 55)⟩,
          ⟨some 57, none, .mov (.t 56)⟩,
          ⟨some 58, (some (18, false)), .mov (.t 6)⟩,
          ⟨some 59, (some (18, false)), .mov (.t 3)⟩,
          ⟨some 60, (some (18, false)), .mov (.t 4)⟩,
          ⟨some 61, (some (18, false)), .call 203 [.t 58, .t 59, .t 60]⟩,
          ⟨some 62, (some (18, false)), .un .not (.t 61)⟩,
          ⟨some 63, none, .pick (.t 57) (.c (.d (.b true))) (.t 62)⟩,
          ⟨some 64, none, .mov (.t 63)⟩,
          ⟨some 65, (some (25, false)), .mov (.t 0)⟩,
          ⟨some 66, (some (25, false)), .mov (.t 5)⟩,
          ⟨some 67, (some (25, false)), .iaddr 1 (.t 65) (.t 66)⟩,
          ⟨some 68, (some (25, false)), .load 1 false (.t 67)⟩,
          ⟨some 69, (some (25, false)), .mov (.t 3)⟩,
          ⟨some 70, (some (25, false)), .mov (.t 4)⟩,
          ⟨some 71, (some (25, false)), .call 203 [.t 68, .t 69, .t 70]⟩,
          ⟨some 72, (some (25, false)), .un .not (.t 71)⟩,
          ⟨some 73, none, .pick (.t 64) (.c (.d (.b true))) (.t 72)⟩] false [])
         (.keep [0, 3, 4, 5, 73] (.cond (.t 73)
          (.keep [] (.seq
          (.region [⟨some 2, none, .mov (.c (.d (.b false)))⟩] false [])
          (.ret)))
          (.skip)))))))))
       (.keep [0, 3, 4, 5] (.region [⟨some 17, none, .mov (.t 5)⟩,
        ⟨some 18, none, .bin .add (.t 17) (.c (.d (.i .i64 1)))⟩,
        ⟨some 5, none, .mov (.t 18)⟩] false []))))
/-- spindle/spindlelaw10.SymtabReads -/
def F204_spindlelaw10_SymtabReads : SFn := ⟨1, true, true, [.tmp 2],
  .seq
   (.region [⟨some 2, none, .mov (.c (.d (.b false)))⟩] false [])
   (.keep [0] (.seq
   (.seq
    (.region [⟨some 7, none, .call 30 []⟩,
     ⟨some 8, none, .un .not (.t 7)⟩] false [])
    (.keep [0, 8] (.cond (.t 8)
    (.keep [] (.seq
     (.region [⟨some 2, none, .mov (.c (.d (.b false)))⟩] false [])
     (.ret)))
    (.skip))))
   (.keep [0] (.seq
    (.region [⟨some 9, none, .build [.sl 0 false [], .i .i64 0] []⟩,
     ⟨some 10, none, .box (.t 9)⟩,
     ⟨some 3, none, .mov (.t 10)⟩] false [])
    (.keep [0, 3] (.seq
    (.region [⟨some 11, none, .build [.i .i64 0, .b false, .sl 0 false [], .sl 0 false [], .sl 0 false [], .sl 0 false []] []⟩,
     ⟨some 12, none, .box (.t 11)⟩,
     ⟨some 4, none, .mov (.t 12)⟩] false [])
    (.keep [0, 3, 4] (.seq
     (.seq
     (.region [⟨some 5, none, .mov (.c (.d (.i .i64 0)))⟩] false [])
     (.keep [0, 3, 4, 5] (.block 0 (.loop [0, 3, 4, 5] false F204_spindlelaw10_SymtabReads_b0))))
     (.keep [4] (.seq
     (.region [⟨some 74, none, .mov (.t 4)⟩,
      ⟨some 75, none, .call 205 [.t 74]⟩,
      ⟨some 2, none, .mov (.t 75)⟩] false [])
     (.ret)))))))))))⟩

/-- (*spindle/spindlelaw10.Symbols).Holds -/
def F205_spindlelaw10_Symbols_Holds : SFn := ⟨1, false, false, [.tmp 2],
  .seq
   (.region [⟨some 2, none, .mov (.c (.d (.b false)))⟩] false [])
   (.keep [0] (.seq
   (.region [⟨some 3, none, .mov (.t 0)⟩,
    ⟨some 4, none, .call 207 [.t 3]⟩] false [])
   (.keep [0] (.seq
    (.region [⟨some 5, none, .mov (.t 0)⟩,
     ⟨some 6, none, .nilChk (.t 5)⟩,
     ⟨some 7, none, .faddr 1 (.t 6)⟩,
     ⟨some 8, none, .load 1 false (.t 7)⟩,
     ⟨some 9, none, .un .not (.t 8)⟩,
     ⟨some 10, none, .mov (.t 9)⟩,
     ⟨some 11, (some (5, true)), .mov (.t 0)⟩,
     ⟨some 12, (some (5, true)), .call 208 [.t 11]⟩,
     ⟨some 13, none, .pick (.t 10) (.t 12) (.c (.d (.b false)))⟩,
     ⟨some 2, none, .mov (.t 13)⟩] false [])
    (.ret)))))⟩

/-- (*spindle/spindlelaw10.Symbols).Own -/
def F206_spindlelaw10_Symbols_Own : SFn := ⟨2, false, false, [],
  .seq
   (.region [⟨some 4, none, .mov (.t 0)⟩,
    ⟨some 5, none, .mov (.t 0)⟩,
    ⟨some 6, none, .nilChk (.t 5)⟩,
    ⟨some 7, none, .faddr 0 (.t 6)⟩,
    ⟨some 8, none, .load 1 false (.t 7)⟩,
    ⟨some 9, none, .mov (.t 1)⟩,
    ⟨some 10, none, .len false (.t 9)⟩,
    ⟨some 11, none, .bin .add (.t 8) (.t 10)⟩,
    ⟨some 12, none, .nilChk (.t 4)⟩,
    ⟨some 13, none, .faddr 0 (.t 12)⟩,
    ⟨none, none, .store 1 (.t 13) (.t 11)⟩] false [])
   (.keep [0, 1] (.seq
   (.region [⟨some 14, none, .mov (.t 0)⟩,
    ⟨some 15, none, .mov (.t 0)⟩,
    ⟨some 16, none, .nilChk (.t 15)⟩,
    ⟨some 17, none, .faddr 2 (.t 16)⟩,
    ⟨some 18, none, .load 1 false (.t 17)⟩,
    ⟨some 19, none, .mov (.t 1)⟩,
    ⟨some 20, none, .litsR 1 [.sl 0 false []] [(0, 1, .t 19)]⟩,
    ⟨some 21, none, .appR 1 24 [.sl 0 false []] (.t 18) (.t 20)⟩,
    ⟨some 22, none, .nilChk (.t 14)⟩,
    ⟨some 23, none, .faddr 2 (.t 22)⟩,
    ⟨none, none, .store 1 (.t 23) (.t 21)⟩] false [])
   (.keep [0, 1] (.seq
    (.region [⟨some 24, none, .mov (.t 0)⟩,
     ⟨some 25, none, .mov (.t 0)⟩,
     ⟨some 26, none, .nilChk (.t 25)⟩,
     ⟨some 27, none, .faddr 3 (.t 26)⟩,
     ⟨some 28, none, .load 1 false (.t 27)⟩,
     ⟨some 29, none, .litsR 0 [.i .i64 0, .i .i64 0, .i .i64 0, .i .i64 0, .i .i64 0, .i .i64 0] []⟩,
     ⟨some 30, none, .mov (.t 1)⟩,
     ⟨some 31, none, .appR 6 48 [.i .i64 0, .i .i64 0, .i .i64 0, .i .i64 0, .i .i64 0, .i .i64 0] (.t 29) (.t 30)⟩,
     ⟨some 32, none, .litsR 1 [.sl 0 false []] [(0, 1, .t 31)]⟩,
     ⟨some 33, none, .appR 1 24 [.sl 0 false []] (.t 28) (.t 32)⟩,
     ⟨some 34, none, .nilChk (.t 24)⟩,
     ⟨some 35, none, .faddr 3 (.t 34)⟩,
     ⟨none, none, .store 1 (.t 35) (.t 33)⟩] true [0, 0, 2, 6, 14, 0, 0, 96, 224, 510, 1023, 2047, 4095])
    (.keep [0] (.seq
    (.region [⟨some 36, none, .mov (.t 0)⟩,
     ⟨some 37, none, .nilChk (.t 36)⟩,
     ⟨some 38, none, .faddr 2 (.t 37)⟩,
     ⟨some 39, none, .load 1 false (.t 38)⟩,
     ⟨some 40, none, .len false (.t 39)⟩,
     ⟨some 41, none, .bin .geq (.t 40) (.c (.d (.i .i64 3)))⟩] false [])
    (.keep [0, 41] (.cond (.t 41)
     (.keep [0] (.region [⟨some 42, none, .mov (.t 0)⟩,
      ⟨some 43, none, .call 209 [.t 42]⟩] false []))
     (.skip)))))))))⟩

def F207_spindlelaw10_Symbols_untouched_b0 : SCode :=
  .seq
    (.seq
     (.region [⟨some 3, none, .mov (.t 2)⟩,
      ⟨some 4, none, .mov (.t 0)⟩,
      ⟨some 5, none, .nilChk (.t 4)⟩,
      ⟨some 6, none, .faddr 2 (.t 5)⟩,
      ⟨some 7, none, .load 1 false (.t 6)⟩,
      ⟨some 8, none, .len false (.t 7)⟩,
      ⟨some 9, none, .bin .lss (.t 3) (.t 8)⟩] false [])
     (.keep [0, 2, 9] (.cond (.t 9)
     (.skip)
     (.exit 0))))
    (.keep [0, 2] (.seq
     (.block 1 (.region [⟨some 12, none, .mov (.t 0)⟩,
      ⟨some 13, none, .mov (.t 0)⟩,
      ⟨some 14, none, .nilChk (.t 13)⟩,
      ⟨some 15, none, .faddr 1 (.t 14)⟩,
      ⟨some 16, none, .load 1 false (.t 15)⟩,
      ⟨some 17, none, .mov (.t 16)⟩,
      ⟨some 18, (some (5, false)), .mov (.t 0)⟩,
      ⟨some 19, (some (5, false)), .nilChk (.t 18)⟩,
      ⟨some 20, (some (5, false)), .faddr 2 (.t 19)⟩,
      ⟨some 21, (some (5, false)), .load 1 false (.t 20)⟩,
      ⟨some 22, (some (5, false)), .mov (.t 2)⟩,
      ⟨some 23, (some (5, false)), .iaddr 1 (.t 21) (.t 22)⟩,
      ⟨some 24, (some (5, false)), .load 1 false (.t 23)⟩,
      ⟨some 25, (some (5, false)), .mov (.t 0)⟩,
      ⟨some 26, (some (5, false)), .nilChk (.t 25)⟩,
      ⟨some 27, (some (5, false)), .faddr 3 (.t 26)⟩,
      ⟨some 28, (some (5, false)), .load 1 false (.t 27)⟩,
      ⟨some 29, (some (5, false)), .mov (.t 2)⟩,
      ⟨some 30, (some (5, false)), .iaddr 1 (.t 28) (.t 29)⟩,
      ⟨some 31, (some (5, false)), .load 1 false (.t 30)⟩,
      ⟨some 32, (some (5, false)), .call 33 [.t 24, .t 31]⟩,
      ⟨some 33, (some (5, false)), .un .not (.t 32)⟩,
      ⟨some 34, none, .pick (.t 17) (.c (.d (.b true))) (.t 33)⟩,
      ⟨some 35, none, .nilChk (.t 12)⟩,
      ⟨some 36, none, .faddr 1 (.t 35)⟩,
      ⟨none, none, .store 1 (.t 36) (.t 34)⟩] true [0, 0, 2, 6, 14, 30, 62, 126, 254, 510, 62, 2046, 4094, 62, 8254, 24638, 57406, 62, 254014, 516158, 1048574, 2097150, 4194302, 8388607, 16777215, 33554431]))
     (.keep [0, 2] (.region [⟨some 10, none, .mov (.t 2)⟩,
      ⟨some 11, none, .bin .add (.t 10) (.c (.d (.i .i64 1)))⟩,
      ⟨some 2, none, .mov (.t 11)⟩] false []))))
/-- (*spindle/spindlelaw10.Symbols).untouched -/
def F207_spindlelaw10_Symbols_untouched : SFn := ⟨1, false, false, [],
  .seq
   (.region [⟨some 2, none, .mov (.c (.d (.i .i64 0)))⟩] false [])
   (.keep [0, 2] (.block 0 (.loop [0, 2] false F207_spindlelaw10_Symbols_untouched_b0)))⟩

def F208_spindlelaw10_Symbols_same_b0 : SCode :=
  .seq
     (.seq
      (.region [⟨some 4, none, .mov (.t 3)⟩,
       ⟨some 5, none, .mov (.t 0)⟩,
       ⟨some 6, none, .nilChk (.t 5)⟩,
       ⟨some 7, none, .faddr 4 (.t 6)⟩,
       ⟨some 8, none, .load 1 false (.t 7)⟩,
       ⟨some 9, none, .len false (.t 8)⟩,
       ⟨some 10, none, .bin .lss (.t 4) (.t 9)⟩] false [])
      (.keep [0, 3, 10] (.cond (.t 10)
      (.skip)
      (.exit 0))))
     (.keep [0, 3] (.seq
      (.block 1 (.seq
       (.region [⟨some 13, none, .mov (.t 0)⟩,
        ⟨some 14, none, .nilChk (.t 13)⟩,
        ⟨some 15, none, .faddr 4 (.t 14)⟩,
        ⟨some 16, none, .load 1 false (.t 15)⟩,
        ⟨some 17, none, .mov (.t 3)⟩,
        ⟨some 18, none, .iaddr 1 (.t 16) (.t 17)⟩,
        ⟨some 19, none, .load 1 false (.t 18)⟩,
        ⟨some 20, none, .mov (.t 0)⟩,
        ⟨some 21, none, .nilChk (.t 20)⟩,
        ⟨some 22, none, .faddr 5 (.t 21)⟩,
        ⟨some 23, none, .load 1 false (.t 22)⟩,
        ⟨some 24, none, .mov (.t 3)⟩,
        ⟨some 25, none, .iaddr 1 (.t 23) (.t 24)⟩,
        ⟨some 26, none, .load 1 false (.t 25)⟩,
        ⟨some 27, none, .call 33 [.t 19, .t 26]⟩,
        ⟨some 28, none, .un .not (.t 27)⟩] true [0, 1, 3, 7, 0, 31, 63, 0, 128, 384, 896, 0, 3968, 8064, 16383, 32767])
       (.keep [0, 3, 28] (.cond (.t 28)
       (.keep [] (.seq
        (.region [⟨some 2, none, .mov (.c (.d (.b false)))⟩] false [])
        (.ret)))
       (.skip)))))
      (.keep [0, 3] (.region [⟨some 11, none, .mov (.t 3)⟩,
       ⟨some 12, none, .bin .add (.t 11) (.c (.d (.i .i64 1)))⟩,
       ⟨some 3, none, .mov (.t 12)⟩] false []))))
/-- (*spindle/spindlelaw10.Symbols).same -/
def F208_spindlelaw10_Symbols_same : SFn := ⟨1, false, false, [.tmp 2],
  .seq
   (.region [⟨some 2, none, .mov (.c (.d (.b false)))⟩] false [])
   (.keep [0] (.seq
   (.seq
    (.region [⟨some 3, none, .mov (.c (.d (.i .i64 0)))⟩] false [])
    (.keep [0, 3] (.block 0 (.loop [0, 3] false F208_spindlelaw10_Symbols_same_b0))))
   (.keep [] (.seq
    (.region [⟨some 2, none, .mov (.c (.d (.b true)))⟩] false [])
    (.ret)))))⟩

def F209_spindlelaw10_Symbols_write_b1 : SCode :=
  .seq
         (.seq
         (.region [⟨some 32, none, .mov (.t 4)⟩,
          ⟨some 33, none, .mov (.t 0)⟩,
          ⟨some 34, none, .nilChk (.t 33)⟩,
          ⟨some 35, none, .faddr 2 (.t 34)⟩,
          ⟨some 36, none, .load 1 false (.t 35)⟩,
          ⟨some 37, none, .mov (.t 3)⟩,
          ⟨some 38, none, .iaddr 1 (.t 36) (.t 37)⟩,
          ⟨some 39, none, .load 1 false (.t 38)⟩,
          ⟨some 40, none, .len false (.t 39)⟩,
          ⟨some 41, none, .bin .lss (.t 32) (.t 40)⟩] false [])
         (.keep [0, 2, 3, 4, 41] (.cond (.t 41)
          (.skip)
          (.exit 2))))
         (.keep [0, 2, 3, 4] (.seq
         (.block 3 (.region [⟨some 44, none, .mov (.t 0)⟩,
           ⟨some 45, none, .nilChk (.t 44)⟩,
           ⟨some 46, none, .faddr 2 (.t 45)⟩,
           ⟨some 47, none, .load 1 false (.t 46)⟩,
           ⟨some 48, none, .mov (.t 3)⟩,
           ⟨some 49, none, .iaddr 1 (.t 47) (.t 48)⟩,
           ⟨some 50, none, .load 1 false (.t 49)⟩,
           ⟨some 51, none, .mov (.t 4)⟩,
           ⟨some 52, none, .mov (.t 2)⟩,
           ⟨some 53, none, .mov (.t 3)⟩,
           ⟨some 54, none, .bin .add (.t 52) (.t 53)⟩,
           ⟨some 55, none, .mov (.t 4)⟩,
           ⟨some 56, none, .call 210 [.t 54, .t 55]⟩,
           ⟨some 57, none, .iaddr 6 (.t 50) (.t 51)⟩,
           ⟨none, none, .store 6 (.t 57) (.t 56)⟩] true [0, 1, 3, 7, 0, 31, 63, 0, 0, 0, 768, 0, 3840, 8191, 16383]))
         (.keep [0, 2, 3, 4] (.region [⟨some 42, none, .mov (.t 4)⟩,
          ⟨some 43, none, .bin .add (.t 42) (.c (.d (.i .i64 1)))⟩,
          ⟨some 4, none, .mov (.t 43)⟩] false []))))
def F209_spindlelaw10_Symbols_write_b0 : SCode :=
  .seq
      (.seq
      (.region [⟨some 23, none, .mov (.t 3)⟩,
       ⟨some 24, none, .mov (.t 0)⟩,
       ⟨some 25, none, .nilChk (.t 24)⟩,
       ⟨some 26, none, .faddr 2 (.t 25)⟩,
       ⟨some 27, none, .load 1 false (.t 26)⟩,
       ⟨some 28, none, .len false (.t 27)⟩,
       ⟨some 29, none, .bin .lss (.t 23) (.t 28)⟩] false [])
      (.keep [0, 2, 3, 29] (.cond (.t 29)
       (.skip)
       (.exit 0))))
      (.keep [0, 2, 3] (.seq
      (.block 1 (.seq
       (.region [⟨some 4, none, .mov (.c (.d (.i .i64 0)))⟩] false [])
       (.keep [0, 2, 3, 4] (.block 2 (.loop [0, 2, 3, 4] false F209_spindlelaw10_Symbols_write_b1)))))
      (.keep [0, 2, 3] (.region [⟨some 30, none, .mov (.t 3)⟩,
       ⟨some 31, none, .bin .add (.t 30) (.c (.d (.i .i64 1)))⟩,
       ⟨some 3, none, .mov (.t 31)⟩] false []))))
def F209_spindlelaw10_Symbols_write_b2 : SCode :=
  .seq
       (.seq
       (.region [⟨some 58, none, .mov (.t 6)⟩,
        ⟨some 59, none, .mov (.t 0)⟩,
        ⟨some 60, none, .nilChk (.t 59)⟩,
        ⟨some 61, none, .faddr 0 (.t 60)⟩,
        ⟨some 62, none, .load 1 false (.t 61)⟩,
        ⟨some 63, none, .bin .add (.t 62) (.c (.d (.i .i64 20)))⟩,
        ⟨some 64, none, .bin .lss (.t 58) (.t 63)⟩,
        ⟨some 65, none, .mov (.t 64)⟩,
        ⟨some 66, (some (7, true)), .mov (.t 6)⟩,
        ⟨some 67, (some (7, true)), .bin .lss (.t 66) (.c (.d (.i .i64 3000)))⟩,
        ⟨some 68, none, .pick (.t 65) (.t 67) (.c (.d (.b false)))⟩] false [])
       (.keep [0, 2, 5, 6, 68] (.cond (.t 68)
        (.skip)
        (.exit 4))))
       (.keep [0, 2, 5, 6] (.seq
       (.block 5 (.region [⟨some 71, none, .mov (.t 5)⟩,
         ⟨some 72, none, .mov (.t 2)⟩,
         ⟨some 73, none, .bin .add (.t 72) (.c (.d (.i .i64 9)))⟩,
         ⟨some 74, none, .mov (.t 6)⟩,
         ⟨some 75, none, .bin .add (.t 74) (.c (.d (.i .i64 5)))⟩,
         ⟨some 76, none, .call 210 [.t 73, .t 75]⟩,
         ⟨some 77, none, .litsR 1 [.i .i64 0, .i .i64 0, .i .i64 0, .i .i64 0, .i .i64 0, .i .i64 0] [(0, 6, .t 76)]⟩,
         ⟨some 78, none, .appR 6 48 [.i .i64 0, .i .i64 0, .i .i64 0, .i .i64 0, .i .i64 0, .i .i64 0] (.t 71) (.t 77)⟩,
         ⟨some 5, none, .mov (.t 78)⟩] false []))
       (.keep [0, 2, 5, 6] (.region [⟨some 69, none, .mov (.t 6)⟩,
        ⟨some 70, none, .bin .add (.t 69) (.c (.d (.i .i64 1)))⟩,
        ⟨some 6, none, .mov (.t 70)⟩] false []))))
def F209_spindlelaw10_Symbols_write_b4 : SCode :=
  .seq
              (.seq
              (.region [⟨some 117, none, .mov (.t 14)⟩,
               ⟨some 118, none, .mov (.t 8)⟩,
               ⟨some 119, none, .len false (.t 118)⟩,
               ⟨some 120, none, .bin .lss (.t 117) (.t 119)⟩] false [])
              (.keep [0, 2, 5, 7, 8, 9, 10, 11, 12, 13, 14, 120] (.cond (.t 120)
               (.skip)
               (.exit 8))))
              (.keep [0, 2, 5, 7, 8, 9, 10, 11, 12, 13, 14] (.seq
              (.block 9 (.region [⟨some 123, none, .mov (.t 13)⟩,
                ⟨some 124, none, .mov (.t 2)⟩,
                ⟨some 125, none, .mov (.t 7)⟩,
                ⟨some 126, none, .bin .add (.t 124) (.t 125)⟩,
                ⟨some 127, none, .mov (.t 14)⟩,
                ⟨some 128, none, .call 210 [.t 126, .t 127]⟩,
                ⟨some 129, none, .litsR 1 [.i .i64 0, .i .i64 0, .i .i64 0, .i .i64 0, .i .i64 0, .i .i64 0] [(0, 6, .t 128)]⟩,
                ⟨some 130, none, .appR 6 48 [.i .i64 0, .i .i64 0, .i .i64 0, .i .i64 0, .i .i64 0, .i .i64 0] (.t 123) (.t 129)⟩,
                ⟨some 13, none, .mov (.t 130)⟩] false []))
              (.keep [0, 2, 5, 7, 8, 9, 10, 11, 12, 13, 14] (.region [⟨some 121, none, .mov (.t 14)⟩,
               ⟨some 122, none, .bin .add (.t 121) (.c (.d (.i .i64 1)))⟩,
               ⟨some 14, none, .mov (.t 122)⟩] false []))))
def F209_spindlelaw10_Symbols_write_b5 : SCode :=
  .seq
               (.seq
               (.region [⟨some 137, none, .mov (.t 15)⟩,
                ⟨some 138, none, .mov (.t 5)⟩,
                ⟨some 139, none, .len false (.t 138)⟩,
                ⟨some 140, none, .bin .lss (.t 137) (.t 139)⟩] false [])
               (.keep [0, 2, 5, 7, 9, 10, 11, 12, 13, 15, 140] (.cond (.t 140)
                (.skip)
                (.exit 10))))
               (.keep [0, 2, 5, 7, 9, 10, 11, 12, 13, 15] (.seq
               (.block 11 (.seq
                (.region [⟨some 143, none, .mov (.t 12)⟩,
                 ⟨some 144, none, .mov (.t 2)⟩,
                 ⟨some 145, none, .mov (.t 7)⟩,
                 ⟨some 146, none, .bin .add (.t 144) (.t 145)⟩,
                 ⟨some 147, none, .mov (.t 15)⟩,
                 ⟨some 148, none, .bin .add (.c (.d (.i .i64 1000))) (.t 147)⟩,
                 ⟨some 149, none, .call 210 [.t 146, .t 148]⟩,
                 ⟨some 150, none, .litsR 1 [.i .i64 0, .i .i64 0, .i .i64 0, .i .i64 0, .i .i64 0, .i .i64 0] [(0, 6, .t 149)]⟩,
                 ⟨some 151, none, .appR 6 48 [.i .i64 0, .i .i64 0, .i .i64 0, .i .i64 0, .i .i64 0, .i .i64 0] (.t 143) (.t 150)⟩,
                 ⟨some 12, none, .mov (.t 151)⟩] false [])
                (.keep [0, 2, 5, 7, 9, 10, 11, 12, 13, 15] (.region [⟨some 152, none, .mov (.t 13)⟩,
                 ⟨some 153, none, .mov (.t 2)⟩,
                 ⟨some 154, none, .mov (.t 7)⟩,
                 ⟨some 155, none, .bin .add (.t 153) (.t 154)⟩,
                 ⟨some 156, none, .mov (.t 15)⟩,
                 ⟨some 157, none, .bin .add (.c (.d (.i .i64 1000))) (.t 156)⟩,
                 ⟨some 158, none, .call 210 [.t 155, .t 157]⟩,
                 ⟨some 159, none, .litsR 1 [.i .i64 0, .i .i64 0, .i .i64 0, .i .i64 0, .i .i64 0, .i .i64 0] [(0, 6, .t 158)]⟩,
                 ⟨some 160, none, .appR 6 48 [.i .i64 0, .i .i64 0, .i .i64 0, .i .i64 0, .i .i64 0, .i .i64 0] (.t 152) (.t 159)⟩,
                 ⟨some 13, none, .mov (.t 160)⟩] false []))))
               (.keep [0, 2, 5, 7, 9, 10, 11, 12, 13, 15] (.region [⟨some 141, none, .mov (.t 15)⟩,
                ⟨some 142, none, .bin .add (.t 141) (.c (.d (.i .i64 1)))⟩,
                ⟨some 15, none, .mov (.t 142)⟩] false []))))
def F209_spindlelaw10_Symbols_write_b3 : SCode :=
  .seq
       (.seq
        (.region [⟨some 79, none, .mov (.t 7)⟩,
         ⟨some 80, none, .mov (.t 0)⟩,
         ⟨some 81, none, .nilChk (.t 80)⟩,
         ⟨some 82, none, .faddr 2 (.t 81)⟩,
         ⟨some 83, none, .load 1 false (.t 82)⟩,
         ⟨some 84, none, .len false (.t 83)⟩,
         ⟨some 85, none, .bin .lss (.t 79) (.t 84)⟩] false [])
        (.keep [0, 2, 5, 7, 85] (.cond (.t 85)
        (.skip)
        (.exit 6))))
       (.keep [0, 2, 5, 7] (.seq
        (.block 7 (.seq
         (.region [⟨some 88, none, .mov (.t 0)⟩,
          ⟨some 89, none, .nilChk (.t 88)⟩,
          ⟨some 90, none, .faddr 2 (.t 89)⟩,
          ⟨some 91, none, .load 1 false (.t 90)⟩,
          ⟨some 92, none, .mov (.t 7)⟩,
          ⟨some 93, none, .iaddr 1 (.t 91) (.t 92)⟩,
          ⟨some 94, none, .load 1 false (.t 93)⟩,
          ⟨some 8, none, .mov (.t 94)⟩] false [])
         (.keep [0, 2, 5, 7, 8] (.seq
         (.region [⟨some 95, none, .mov (.t 8)⟩,
          ⟨some 96, none, .mov (.t 2)⟩,
          ⟨some 97, none, .mov (.t 7)⟩,
          ⟨some 98, none, .bin .add (.t 96) (.t 97)⟩,
          ⟨some 99, none, .call 210 [.t 98, .c (.d (.i .i64 (-1)))]⟩,
          ⟨some 100, none, .litsR 1 [.i .i64 0, .i .i64 0, .i .i64 0, .i .i64 0, .i .i64 0, .i .i64 0] [(0, 6, .t 99)]⟩,
          ⟨some 101, none, .appR 6 48 [.i .i64 0, .i .i64 0, .i .i64 0, .i .i64 0, .i .i64 0, .i .i64 0] (.t 95) (.t 100)⟩,
          ⟨some 9, none, .mov (.t 101)⟩] false [])
         (.keep [0, 2, 5, 7, 8, 9] (.seq
          (.region [⟨some 102, none, .mov (.t 8)⟩,
           ⟨some 103, none, .mov (.t 2)⟩,
           ⟨some 104, none, .mov (.t 7)⟩,
           ⟨some 105, none, .bin .add (.t 103) (.t 104)⟩,
           ⟨some 106, none, .call 210 [.t 105, .c (.d (.i .i64 (-2)))]⟩,
           ⟨some 107, none, .mov (.t 2)⟩,
           ⟨some 108, none, .mov (.t 7)⟩,
           ⟨some 109, none, .bin .add (.t 107) (.t 108)⟩,
           ⟨some 110, none, .call 210 [.t 109, .c (.d (.i .i64 (-3)))]⟩,
           ⟨some 111, none, .litsR 2 [.i .i64 0, .i .i64 0, .i .i64 0, .i .i64 0, .i .i64 0, .i .i64 0] [(0, 6, .t 106), (6, 6, .t 110)]⟩,
           ⟨some 112, none, .appR 6 48 [.i .i64 0, .i .i64 0, .i .i64 0, .i .i64 0, .i .i64 0, .i .i64 0] (.t 102) (.t 111)⟩,
           ⟨some 10, none, .mov (.t 112)⟩] false [])
          (.keep [0, 2, 5, 7, 8, 9, 10] (.seq
          (.region [⟨some 113, none, .mov (.t 8)⟩,
           ⟨some 114, none, .mov (.t 5)⟩,
           ⟨some 115, none, .appR 6 48 [.i .i64 0, .i .i64 0, .i .i64 0, .i .i64 0, .i .i64 0, .i .i64 0] (.t 113) (.t 114)⟩,
           ⟨some 11, none, .mov (.t 115)⟩] false [])
          (.keep [0, 2, 5, 7, 8, 9, 10, 11] (.seq
           (.region [⟨some 116, none, .mov (.t 8)⟩,
            ⟨some 12, none, .mov (.t 116)⟩] false [])
           (.keep [0, 2, 5, 7, 8, 9, 10, 11, 12] (.seq
           (.region [⟨some 13, none, .mov (.c (.d (.sl 0 false [])))⟩] false [])
           (.keep [0, 2, 5, 7, 8, 9, 10, 11, 12, 13] (.seq
            (.seq
            (.region [⟨some 14, none, .mov (.c (.d (.i .i64 0)))⟩] false [])
            (.keep [0, 2, 5, 7, 8, 9, 10, 11, 12, 13, 14] (.block 8 (.loop [0, 2, 5, 7, 8, 9, 10, 11, 12, 13, 14] false F209_spindlelaw10_Symbols_write_b4))))
            (.keep [0, 2, 5, 7, 8, 9, 10, 11, 12, 13] (.seq
            (.region [⟨some 131, none, .mov (.t 0)⟩,
             ⟨some 132, none, .mov (.t 8)⟩,
             ⟨some 133, none, .litsR 0 [.i .i64 0, .i .i64 0, .i .i64 0, .i .i64 0, .i .i64 0, .i .i64 0] []⟩,
             ⟨some 134, none, .mov (.t 13)⟩,
             ⟨some 135, none, .appR 6 48 [.i .i64 0, .i .i64 0, .i .i64 0, .i .i64 0, .i .i64 0, .i .i64 0] (.t 133) (.t 134)⟩,
             ⟨some 136, none, .call 211 [.t 131, .t 132, .t 135]⟩] false [])
            (.keep [0, 2, 5, 7, 9, 10, 11, 12, 13] (.seq
             (.seq
             (.region [⟨some 15, none, .mov (.c (.d (.i .i64 0)))⟩] false [])
             (.keep [0, 2, 5, 7, 9, 10, 11, 12, 13, 15] (.block 10 (.loop [0, 2, 5, 7, 9, 10, 11, 12, 13, 15] false F209_spindlelaw10_Symbols_write_b5))))
             (.keep [0, 2, 5, 7, 9, 10, 11, 12, 13] (.seq
             (.region [⟨some 161, none, .mov (.t 0)⟩,
              ⟨some 162, none, .mov (.t 12)⟩,
              ⟨some 163, none, .mov (.t 13)⟩,
              ⟨some 164, none, .call 211 [.t 161, .t 162, .t 163]⟩] false [])
             (.keep [0, 2, 5, 7, 9, 10, 11] (.seq
              (.region [⟨some 165, none, .mov (.t 0)⟩,
               ⟨some 166, none, .mov (.t 9)⟩,
               ⟨some 167, none, .litsR 0 [.i .i64 0, .i .i64 0, .i .i64 0, .i .i64 0, .i .i64 0, .i .i64 0] []⟩,
               ⟨some 168, none, .mov (.t 9)⟩,
               ⟨some 169, none, .appR 6 48 [.i .i64 0, .i .i64 0, .i .i64 0, .i .i64 0, .i .i64 0, .i .i64 0] (.t 167) (.t 168)⟩,
               ⟨some 170, none, .call 211 [.t 165, .t 166, .t 169]⟩] false [])
              (.keep [0, 2, 5, 7, 10, 11] (.seq
              (.region [⟨some 171, none, .mov (.t 0)⟩,
               ⟨some 172, none, .mov (.t 10)⟩,
               ⟨some 173, none, .litsR 0 [.i .i64 0, .i .i64 0, .i .i64 0, .i .i64 0, .i .i64 0, .i .i64 0] []⟩,
               ⟨some 174, none, .mov (.t 10)⟩,
               ⟨some 175, none, .appR 6 48 [.i .i64 0, .i .i64 0, .i .i64 0, .i .i64 0, .i .i64 0, .i .i64 0] (.t 173) (.t 174)⟩,
               ⟨some 176, none, .call 211 [.t 171, .t 172, .t 175]⟩] false [])
              (.keep [0, 2, 5, 7, 11] (.region [⟨some 177, none, .mov (.t 0)⟩,
               ⟨some 178, none, .mov (.t 11)⟩,
               ⟨some 179, none, .litsR 0 [.i .i64 0, .i .i64 0, .i .i64 0, .i .i64 0, .i .i64 0, .i .i64 0] []⟩,
               ⟨some 180, none, .mov (.t 11)⟩,
               ⟨some 181, none, .appR 6 48 [.i .i64 0, .i .i64 0, .i .i64 0, .i .i64 0, .i .i64 0, .i .i64 0] (.t 179) (.t 180)⟩,
               ⟨some 182, none, .call 211 [.t 177, .t 178, .t 181]⟩] false []))))))))))))))))))))))))))
        (.keep [0, 2, 5, 7] (.region [⟨some 86, none, .mov (.t 7)⟩,
         ⟨some 87, none, .bin .add (.t 86) (.c (.d (.i .i64 1)))⟩,
         ⟨some 7, none, .mov (.t 87)⟩] false []))))
/-- (*spindle/spindlelaw10.Symbols).write -/
def F209_spindlelaw10_Symbols_write : SFn := ⟨1, false, false, [],
  .seq
   (.region [⟨some 16, none, .mov (.t 0)⟩,
    ⟨some 17, none, .call 207 [.t 16]⟩] false [])
   (.keep [0] (.seq
   (.region [⟨some 18, none, .mov (.t 0)⟩,
    ⟨some 19, none, .nilChk (.t 18)⟩,
    ⟨some 20, none, .faddr 4 (.t 19)⟩,
    ⟨some 21, none, .load 1 false (.t 20)⟩,
    ⟨some 22, none, .len false (.t 21)⟩,
    ⟨some 2, none, .mov (.t 22)⟩] false [])
   (.keep [0, 2] (.seq
    (.seq
    (.region [⟨some 3, none, .mov (.c (.d (.i .i64 0)))⟩] false [])
    (.keep [0, 2, 3] (.block 0 (.loop [0, 2, 3] false F209_spindlelaw10_Symbols_write_b0))))
    (.keep [0, 2] (.seq
    (.region [⟨some 5, none, .mov (.c (.d (.sl 0 false [])))⟩] false [])
    (.keep [0, 2, 5] (.seq
     (.seq
     (.region [⟨some 6, none, .mov (.c (.d (.i .i64 0)))⟩] false [])
     (.keep [0, 2, 5, 6] (.block 4 (.loop [0, 2, 5, 6] false F209_spindlelaw10_Symbols_write_b2))))
     (.keep [0, 2, 5] (.seq
     (.seq
      (.region [⟨some 7, none, .mov (.c (.d (.i .i64 0)))⟩] false [])
      (.keep [0, 2, 5, 7] (.block 6 (.loop [0, 2, 5, 7] false F209_spindlelaw10_Symbols_write_b3))))
     (.keep [0] (.seq
      (.region [⟨some 183, none, .mov (.t 0)⟩,
       ⟨some 184, none, .nilChk (.t 183)⟩,
       ⟨some 185, none, .faddr 2 (.t 184)⟩,
       ⟨none, none, .store 1 (.t 185) (.c (.d (.sl 0 false [])))⟩] false [])
      (.keep [0] (.seq
      (.region [⟨some 186, none, .mov (.t 0)⟩,
       ⟨some 187, none, .nilChk (.t 186)⟩,
       ⟨some 188, none, .faddr 3 (.t 187)⟩,
       ⟨none, none, .store 1 (.t 188) (.c (.d (.sl 0 false [])))⟩] false [])
      (.keep [0] (.region [⟨some 189, none, .mov (.t 0)⟩,
       ⟨some 190, none, .mov (.t 0)⟩,
       ⟨some 191, none, .nilChk (.t 190)⟩,
       ⟨some 192, none, .faddr 1 (.t 191)⟩,
       ⟨some 193, none, .load 1 false (.t 192)⟩,
       ⟨some 194, none, .mov (.t 193)⟩,
       ⟨some 195, (some (5, false)), .mov (.t 0)⟩,
       ⟨some 196, (some (5, false)), .call 208 [.t 195]⟩,
       ⟨some 197, (some (5, false)), .un .not (.t 196)⟩,
       ⟨some 198, none, .pick (.t 194) (.c (.d (.b true))) (.t 197)⟩,
       ⟨some 199, none, .nilChk (.t 189)⟩,
       ⟨some 200, none, .faddr 1 (.t 199)⟩,
       ⟨none, none, .store 1 (.t 200) (.t 198)⟩] false []))))))))))))))))⟩

/-- spindle/spindlelaw10.markSymbols -/
def F210_spindlelaw10_markSymbols : SFn := ⟨2, true, true, [.cell 4 6 true],
  .seq
   (.region [⟨some 4, none, .alloc [.i .i64 0, .i .i64 0, .i .i64 0, .i .i64 0, .i .i64 0, .i .i64 0]⟩] false [])
   (.keep [0, 1, 4] (.seq
   (.region [⟨some 5, none, .mov (.t 0)⟩,
    ⟨some 6, none, .bin .sub (.c (.d (.i .i64 (-1)))) (.t 5)⟩,
    ⟨some 7, none, .mov (.t 1)⟩,
    ⟨some 8, none, .mov (.t 0)⟩,
    ⟨some 9, none, .mov (.t 1)⟩,
    ⟨some 10, none, .mov (.t 0)⟩,
    ⟨some 11, none, .bin .add (.t 9) (.t 10)⟩,
    ⟨some 12, none, .build [.i .i64 0, .i .i64 0, .i .i64 0, .i .i64 0, .i .i64 0, .i .i64 0] [(0, 1, .t 6), (1, 1, .t 7), (2, 1, .c (.d (.i .i64 7))), (3, 1, .t 8), (4, 1, .t 11), (5, 1, .c (.d (.i .i64 9)))]⟩,
    ⟨none, none, .store 6 (.t 4) (.t 12)⟩] false [])
   (.ret)))⟩

/-- (*spindle/spindlelaw10.Symbols).keep -/
def F211_spindlelaw10_Symbols_keep : SFn := ⟨3, false, false, [],
  .seq
   (.region [⟨some 6, none, .mov (.t 0)⟩,
    ⟨some 7, none, .mov (.t 0)⟩,
    ⟨some 8, none, .nilChk (.t 7)⟩,
    ⟨some 9, none, .faddr 4 (.t 8)⟩,
    ⟨some 10, none, .load 1 false (.t 9)⟩,
    ⟨some 11, none, .mov (.t 1)⟩,
    ⟨some 12, none, .litsR 1 [.sl 0 false []] [(0, 1, .t 11)]⟩,
    ⟨some 13, none, .appR 1 24 [.sl 0 false []] (.t 10) (.t 12)⟩,
    ⟨some 14, none, .nilChk (.t 6)⟩,
    ⟨some 15, none, .faddr 4 (.t 14)⟩,
    ⟨none, none, .store 1 (.t 15) (.t 13)⟩] false [])
   (.keep [0, 2] (.region [⟨some 16, none, .mov (.t 0)⟩,
    ⟨some 17, none, .mov (.t 0)⟩,
    ⟨some 18, none, .nilChk (.t 17)⟩,
    ⟨some 19, none, .faddr 5 (.t 18)⟩,
    ⟨some 20, none, .load 1 false (.t 19)⟩,
    ⟨some 21, none, .mov (.t 2)⟩,
    ⟨some 22, none, .litsR 1 [.sl 0 false []] [(0, 1, .t 21)]⟩,
    ⟨some 23, none, .appR 1 24 [.sl 0 false []] (.t 20) (.t 22)⟩,
    ⟨some 24, none, .nilChk (.t 16)⟩,
    ⟨some 25, none, .faddr 5 (.t 24)⟩,
    ⟨none, none, .store 1 (.t 25) (.t 23)⟩] false []))⟩
end Go.Sh
