/- Shadow functions of law15, written by tr.py. -/
import Derived.Test.YtidigkielipghaaDoorShBa
namespace Go.Sh
/-- spindle/spindlelaw15.awake -/
def F315_spindlelaw15_awake : SFn := ⟨0, true, true, [.tmp 0],
  .seq
   (.region [⟨some 0, none, .mov (.c (.d (.b false)))⟩] false [])
   (.keep [] (.seq
   (.region [⟨some 8, none, .lits 1 [.s []] [(0, 1, .c (.d (.s [103])))]⟩,
    ⟨some 9, none, .call 325 [.c (.d (.s [102])), .c (.d (.b true)), .t 8]⟩,
    ⟨some 10, none, .call 325 [.c (.d (.s [103])), .c (.d (.b true)), .c (.d (.sl 0 false []))]⟩,
    ⟨some 11, none, .lits 2 [.sl 0 false [], .sl 0 false [], .sl 0 false [], .sl 0 false [], .sl 0 false []] [(0, 5, .t 9), (5, 5, .t 10)]⟩,
    ⟨some 12, none, .call 320 [.t 11]⟩,
    ⟨some 7, none, .mov (.t 12)⟩,
    ⟨some 13, none, .extract 0 (.t 7)⟩,
    ⟨some 14, none, .extract 1 (.t 7)⟩,
    ⟨some 15, none, .extract 2 (.t 7)⟩,
    ⟨some 1, none, .alloc [.sl 0 false [], .sl 0 false []]⟩,
    ⟨none, none, .store 2 (.t 1) (.t 13)⟩,
    ⟨some 2, none, .mov (.t 14)⟩,
    ⟨some 3, none, .mov (.t 15)⟩] false [])
   (.keep [1, 2, 3] (.seq
    (.region [⟨some 17, none, .call 325 [.c (.d (.s [102])), .c (.d (.b true)), .c (.d (.sl 0 false []))]⟩,
     ⟨some 18, none, .call 325 [.c (.d (.s [102])), .c (.d (.b true)), .c (.d (.sl 0 false []))]⟩,
     ⟨some 19, none, .lits 2 [.sl 0 false [], .sl 0 false [], .sl 0 false [], .sl 0 false [], .sl 0 false []] [(0, 5, .t 17), (5, 5, .t 18)]⟩,
     ⟨some 20, none, .call 320 [.t 19]⟩,
     ⟨some 16, none, .mov (.t 20)⟩,
     ⟨some 21, none, .extract 0 (.t 16)⟩,
     ⟨some 22, none, .extract 1 (.t 16)⟩,
     ⟨some 23, none, .extract 2 (.t 16)⟩,
     ⟨some 4, none, .alloc [.sl 0 false [], .sl 0 false []]⟩,
     ⟨none, none, .store 2 (.t 4) (.t 21)⟩,
     ⟨some 5, none, .mov (.t 22)⟩,
     ⟨some 6, none, .mov (.t 23)⟩] false [])
    (.keep [1, 2, 3, 5, 6] (.seq
    (.seq
     (.region [⟨some 24, none, .mov (.t 3)⟩,
      ⟨some 25, none, .call 12 [.t 24]⟩,
      ⟨some 26, none, .bin .neq (.t 25) (.c (.d (.i .i64 0)))⟩,
      ⟨some 27, none, .mov (.t 26)⟩,
      ⟨some 28, (some (3, false)), .mov (.t 2)⟩,
      ⟨some 29, (some (3, false)), .bin .neq (.t 28) (.c (.d (.s [])))⟩,
      ⟨some 30, none, .pick (.t 27) (.c (.d (.b true))) (.t 29)⟩,
      ⟨some 31, none, .mov (.t 30)⟩,
      ⟨some 32, (some (7, false)), .faddr 0 (.t 1)⟩,
      ⟨some 33, (some (7, false)), .load 1 false (.t 32)⟩,
      ⟨some 34, (some (7, false)), .len false (.t 33)⟩,
      ⟨some 35, (some (7, false)), .bin .neq (.t 34) (.c (.d (.i .i64 2)))⟩,
      ⟨some 36, none, .pick (.t 31) (.c (.d (.b true))) (.t 35)⟩,
      ⟨some 37, none, .mov (.t 36)⟩,
      ⟨some 38, (some (13, false)), .faddr 0 (.t 1)⟩,
      ⟨some 39, (some (13, false)), .load 1 false (.t 38)⟩,
      ⟨some 40, (some (13, false)), .iaddr 3 (.t 39) (.c (.d (.i .i64 1)))⟩,
      ⟨some 41, (some (13, false)), .faddr 0 (.t 40)⟩,
      ⟨some 42, (some (13, false)), .load 1 false (.t 41)⟩,
      ⟨some 43, (some (13, false)), .bin .neq (.t 42) (.c (.d (.s [103])))⟩,
      ⟨some 44, none, .pick (.t 37) (.c (.d (.b true))) (.t 43)⟩,
      ⟨some 45, none, .mov (.t 44)⟩,
      ⟨some 46, (some (21, false)), .faddr 0 (.t 1)⟩,
      ⟨some 47, (some (21, false)), .load 1 false (.t 46)⟩,
      ⟨some 48, (some (21, false)), .iaddr 3 (.t 47) (.c (.d (.i .i64 1)))⟩,
      ⟨some 49, (some (21, false)), .faddr 1 (.t 48)⟩,
      ⟨some 50, (some (21, false)), .load 1 false (.t 49)⟩,
      ⟨some 51, (some (21, false)), .bin .neq (.t 50) (.c (.d (.i .i64 1)))⟩,
      ⟨some 52, none, .pick (.t 45) (.c (.d (.b true))) (.t 51)⟩] false [])
     (.keep [5, 6, 52] (.cond (.t 52)
     (.keep [] (.seq
      (.region [⟨some 0, none, .mov (.c (.d (.b false)))⟩] false [])
      (.ret)))
     (.skip))))
    (.keep [5, 6] (.seq
     (.region [⟨some 53, none, .mov (.t 6)⟩,
      ⟨some 54, none, .call 12 [.t 53]⟩,
      ⟨some 55, none, .bin .eql (.t 54) (.c (.d (.i .i64 162)))⟩,
      ⟨some 56, none, .mov (.t 55)⟩,
      ⟨some 57, (some (3, true)), .mov (.t 5)⟩,
      ⟨some 58, (some (3, true)), .bin .eql (.t 57) (.c (.d (.s [102])))⟩,
      ⟨some 59, none, .pick (.t 56) (.t 58) (.c (.d (.b false)))⟩,
      ⟨some 0, none, .mov (.t 59)⟩] false [])
     (.ret)))))))))⟩

def F316_spindlelaw15_shuffled_b1 : SCode :=
  .seq
           (.seq
            (.region [⟨some 33, none, .mov (.t 9)⟩,
             ⟨some 34, none, .mov (.t 8)⟩,
             ⟨some 35, none, .bin .gtr (.t 33) (.t 34)⟩] false [])
            (.keep [0, 5, 6, 7, 8, 9, 35] (.cond (.t 35)
            (.skip)
            (.exit 2))))
           (.keep [0, 5, 6, 7, 8, 9] (.seq
            (.block 3 (.region [⟨some 38, none, .mov (.t 5)⟩,
             ⟨some 39, none, .mov (.t 9)⟩,
             ⟨some 40, none, .mov (.t 5)⟩,
             ⟨some 41, none, .mov (.t 9)⟩,
             ⟨some 42, none, .bin .sub (.t 41) (.c (.d (.i .i64 1)))⟩,
             ⟨some 43, none, .iaddr 1 (.t 40) (.t 42)⟩,
             ⟨some 44, none, .load 1 false (.t 43)⟩,
             ⟨some 45, none, .iaddr 1 (.t 38) (.t 39)⟩,
             ⟨none, none, .store 1 (.t 45) (.t 44)⟩] false []))
            (.keep [0, 5, 6, 7, 8, 9] (.region [⟨some 36, none, .mov (.t 9)⟩,
             ⟨some 37, none, .bin .sub (.t 36) (.c (.d (.i .i64 1)))⟩,
             ⟨some 9, none, .mov (.t 37)⟩] false []))))
def F316_spindlelaw15_shuffled_b0 : SCode :=
  .seq
      (.seq
       (.region [⟨some 12, none, .mov (.t 7)⟩,
        ⟨some 13, none, .mov (.t 0)⟩,
        ⟨some 14, none, .bin .lss (.t 12) (.t 13)⟩] false [])
       (.keep [0, 5, 6, 7, 14] (.cond (.t 14)
       (.skip)
       (.exit 0))))
      (.keep [0, 5, 6, 7] (.seq
       (.block 1 (.seq
        (.region [⟨some 17, none, .mov (.t 6)⟩,
         ⟨some 18, none, .mov (.t 7)⟩,
         ⟨some 19, none, .bin .add (.t 18) (.c (.d (.i .i64 1)))⟩,
         ⟨some 20, none, .conv .u64 (.t 19)⟩,
         ⟨some 21, none, .bin .rem (.t 17) (.t 20)⟩,
         ⟨some 22, none, .conv .i64 (.t 21)⟩,
         ⟨some 8, none, .mov (.t 22)⟩] false [])
        (.keep [0, 5, 6, 7, 8] (.seq
        (.region [⟨some 23, none, .mov (.t 6)⟩,
         ⟨some 24, none, .mov (.t 7)⟩,
         ⟨some 25, none, .bin .add (.t 24) (.c (.d (.i .i64 1)))⟩,
         ⟨some 26, none, .conv .u64 (.t 25)⟩,
         ⟨some 27, none, .bin .quo (.t 23) (.t 26)⟩,
         ⟨some 28, none, .bin .add (.t 27) (.c (.d (.i .u64 1000003)))⟩,
         ⟨some 6, none, .mov (.t 28)⟩] false [])
        (.keep [0, 5, 6, 7, 8] (.seq
         (.region [⟨some 29, none, .mov (.t 5)⟩,
          ⟨some 30, none, .lits 1 [.i .i64 0] [(0, 1, .c (.d (.i .i64 0)))]⟩,
          ⟨some 31, none, .appR 1 8 [.i .i64 0] (.t 29) (.t 30)⟩,
          ⟨some 5, none, .mov (.t 31)⟩] false [])
         (.keep [0, 5, 6, 7, 8] (.seq
         (.seq
          (.region [⟨some 32, none, .mov (.t 7)⟩,
           ⟨some 9, none, .mov (.t 32)⟩] false [])
          (.keep [0, 5, 6, 7, 8, 9] (.block 2 (.loop [0, 5, 6, 7, 8, 9] false F316_spindlelaw15_shuffled_b1))))
         (.keep [0, 5, 6, 7, 8] (.region [⟨some 46, none, .mov (.t 5)⟩,
          ⟨some 47, none, .mov (.t 8)⟩,
          ⟨some 48, none, .mov (.t 7)⟩,
          ⟨some 49, none, .iaddr 1 (.t 46) (.t 47)⟩,
          ⟨none, none, .store 1 (.t 49) (.t 48)⟩] false []))))))))))
       (.keep [0, 5, 6, 7] (.region [⟨some 15, none, .mov (.t 7)⟩,
        ⟨some 16, none, .bin .add (.t 15) (.c (.d (.i .i64 1)))⟩,
        ⟨some 7, none, .mov (.t 16)⟩] false []))))
/-- spindle/spindlelaw15.shuffled -/
def F316_spindlelaw15_shuffled : SFn := ⟨2, false, false, [.tmp 4],
  .seq
   (.region [⟨some 4, none, .mov (.c (.d (.sl 0 false [])))⟩] false [])
   (.keep [0, 1] (.seq
   (.region [⟨some 5, none, .mov (.c (.d (.sl 0 false [])))⟩] false [])
   (.keep [0, 1, 5] (.seq
    (.region [⟨some 10, none, .mov (.t 1)⟩,
     ⟨some 11, none, .conv .u64 (.t 10)⟩,
     ⟨some 6, none, .mov (.t 11)⟩] false [])
    (.keep [0, 5, 6] (.seq
    (.seq
     (.region [⟨some 7, none, .mov (.c (.d (.i .i64 0)))⟩] false [])
     (.keep [0, 5, 6, 7] (.block 0 (.loop [0, 5, 6, 7] false F316_spindlelaw15_shuffled_b0))))
    (.keep [5] (.seq
     (.region [⟨some 50, none, .mov (.t 5)⟩,
      ⟨some 4, none, .mov (.t 50)⟩] false [])
     (.ret)))))))))⟩

def F318_spindlelaw15_NamesOrders_b0 : SCode :=
  .seq
       (.seq
       (.region [⟨some 23, none, .mov (.t 7)⟩,
        ⟨some 24, none, .mov (.t 5)⟩,
        ⟨some 25, none, .len false (.t 24)⟩,
        ⟨some 26, none, .bin .lss (.t 23) (.t 25)⟩] false [])
       (.keep [0, 5, 6, 7, 26] (.cond (.t 26)
        (.skip)
        (.exit 0))))
       (.keep [0, 5, 6, 7] (.seq
       (.block 1 (.region [⟨some 29, none, .mov (.t 6)⟩,
         ⟨some 30, none, .mov (.t 0)⟩,
         ⟨some 31, none, .mov (.t 5)⟩,
         ⟨some 32, none, .mov (.t 7)⟩,
         ⟨some 33, none, .iaddr 1 (.t 31) (.t 32)⟩,
         ⟨some 34, none, .load 1 false (.t 33)⟩,
         ⟨some 35, none, .iaddr 5 (.t 30) (.t 34)⟩,
         ⟨some 36, none, .load 5 true (.t 35)⟩,
         ⟨some 37, none, .call 317 [.t 36]⟩,
         ⟨some 38, none, .lits 1 [.sl 0 false [], .sl 0 false [], .sl 0 false [], .sl 0 false [], .sl 0 false []] [(0, 5, .t 37)]⟩,
         ⟨some 39, none, .app 5 120 (.t 29) (.t 38)⟩,
         ⟨some 6, none, .mov (.t 39)⟩] false []))
       (.keep [0, 5, 6, 7] (.region [⟨some 27, none, .mov (.t 7)⟩,
        ⟨some 28, none, .bin .add (.t 27) (.c (.d (.i .i64 1)))⟩,
        ⟨some 7, none, .mov (.t 28)⟩] false []))))
def F318_spindlelaw15_NamesOrders_b1 : SCode :=
  .seq
         (.seq
         (.region [⟨some 80, none, .mov (.t 14)⟩,
          ⟨some 81, none, .faddr 0 (.t 8)⟩,
          ⟨some 82, none, .load 1 false (.t 81)⟩,
          ⟨some 83, none, .len false (.t 82)⟩,
          ⟨some 84, none, .bin .lss (.t 80) (.t 83)⟩] false [])
         (.keep [5, 8, 11, 14, 84] (.cond (.t 84)
          (.skip)
          (.exit 2))))
         (.keep [5, 8, 11, 14] (.seq
         (.block 3 (.seq
          (.region [⟨some 87, none, .faddr 0 (.t 8)⟩,
           ⟨some 88, none, .load 1 false (.t 87)⟩,
           ⟨some 89, none, .mov (.t 14)⟩,
           ⟨some 90, none, .iaddr 3 (.t 88) (.t 89)⟩,
           ⟨some 91, none, .load 3 true (.t 90)⟩,
           ⟨some 92, none, .faddr 0 (.t 11)⟩,
           ⟨some 93, none, .load 1 false (.t 92)⟩,
           ⟨some 94, none, .mov (.t 14)⟩,
           ⟨some 95, none, .iaddr 3 (.t 93) (.t 94)⟩,
           ⟨some 96, none, .load 3 true (.t 95)⟩,
           ⟨some 15, none, .alloc [.s [], .i .i64 0, .i .i64 0]⟩,
           ⟨some 16, none, .alloc [.s [], .i .i64 0, .i .i64 0]⟩,
           ⟨none, none, .storeX 3 (.t 15) (.t 91) [92, 95]⟩,
           ⟨none, none, .store 3 (.t 16) (.t 96)⟩] true [0, 1, 0, 7, 15, 0, 32, 0, 224, 480, 0, 0, 3103, 8191])
          (.keep [5, 8, 11, 14, 15, 16] (.seq
           (.region [⟨some 97, none, .faddr 1 (.t 16)⟩,
            ⟨some 98, none, .load 1 false (.t 97)⟩,
            ⟨some 99, none, .bin .lss (.t 98) (.c (.d (.i .i64 0)))⟩,
            ⟨some 100, none, .mov (.t 99)⟩,
            ⟨some 101, (some (3, false)), .faddr 1 (.t 16)⟩,
            ⟨some 102, (some (3, false)), .load 1 false (.t 101)⟩,
            ⟨some 103, (some (3, false)), .mov (.t 5)⟩,
            ⟨some 104, (some (3, false)), .len false (.t 103)⟩,
            ⟨some 105, (some (3, false)), .bin .geq (.t 102) (.t 104)⟩,
            ⟨some 106, none, .pick (.t 100) (.c (.d (.b true))) (.t 105)⟩,
            ⟨some 107, none, .mov (.t 106)⟩,
            ⟨some 108, (some (10, false)), .faddr 0 (.t 15)⟩,
            ⟨some 109, (some (10, false)), .load 1 false (.t 108)⟩,
            ⟨some 110, (some (10, false)), .faddr 0 (.t 16)⟩,
            ⟨some 111, (some (10, false)), .load 1 false (.t 110)⟩,
            ⟨some 112, (some (10, false)), .bin .neq (.t 109) (.t 111)⟩,
            ⟨some 113, none, .pick (.t 107) (.c (.d (.b true))) (.t 112)⟩,
            ⟨some 114, none, .mov (.t 113)⟩,
            ⟨some 115, (some (17, false)), .faddr 2 (.t 15)⟩,
            ⟨some 116, (some (17, false)), .load 1 false (.t 115)⟩,
            ⟨some 117, (some (17, false)), .faddr 2 (.t 16)⟩,
            ⟨some 118, (some (17, false)), .load 1 false (.t 117)⟩,
            ⟨some 119, (some (17, false)), .bin .neq (.t 116) (.t 118)⟩,
            ⟨some 120, none, .pick (.t 114) (.c (.d (.b true))) (.t 119)⟩,
            ⟨some 121, none, .mov (.t 120)⟩,
            ⟨some 122, (some (24, false)), .mov (.t 5)⟩,
            ⟨some 123, (some (24, false)), .faddr 1 (.t 16)⟩,
            ⟨some 124, (some (24, false)), .load 1 false (.t 123)⟩,
            ⟨some 125, (some (24, false)), .iaddr 1 (.t 122) (.t 124)⟩,
            ⟨some 126, (some (24, false)), .load 1 false (.t 125)⟩,
            ⟨some 127, (some (24, false)), .faddr 1 (.t 15)⟩,
            ⟨some 128, (some (24, false)), .load 1 false (.t 127)⟩,
            ⟨some 129, (some (24, false)), .bin .neq (.t 126) (.t 128)⟩,
            ⟨some 130, none, .pick (.t 121) (.c (.d (.b true))) (.t 129)⟩] true [0, 1, 3, 7, 15, 31, 15, 79, 255, 511, 1023, 2047, 4095, 2047, 10239, 32767, 65535, 131071, 262143, 524287, 262143, 1310719, 4194303, 8388607, 16777215, 33554431, 33554431, 100663295, 268435455, 536870911, 33554431, 1107296255, 4294967295, 8589934591])
           (.keep [5, 8, 11, 14, 130] (.cond (.t 130)
           (.keep [] (.seq
            (.region [⟨some 4, none, .mov (.c (.d (.b false)))⟩] false [])
            (.ret)))
           (.skip)))))))
         (.keep [5, 8, 11, 14] (.region [⟨some 85, none, .mov (.t 14)⟩,
          ⟨some 86, none, .bin .add (.t 85) (.c (.d (.i .i64 1)))⟩,
          ⟨some 14, none, .mov (.t 86)⟩] false []))))
/-- spindle/spindlelaw15.NamesOrders -/
def F318_spindlelaw15_NamesOrders : SFn := ⟨2, true, true, [.tmp 4],
  .seq
   (.region [⟨some 4, none, .mov (.c (.d (.b false)))⟩] false [])
   (.keep [0, 1] (.seq
   (.seq
    (.region [⟨some 17, none, .call 315 []⟩,
     ⟨some 18, none, .un .not (.t 17)⟩] false [])
    (.keep [0, 1, 18] (.cond (.t 18)
    (.keep [] (.seq
     (.region [⟨some 4, none, .mov (.c (.d (.b false)))⟩] false [])
     (.ret)))
    (.skip))))
   (.keep [0, 1] (.seq
    (.region [⟨some 19, none, .mov (.t 0)⟩,
     ⟨some 20, none, .len false (.t 19)⟩,
     ⟨some 21, none, .mov (.t 1)⟩,
     ⟨some 22, none, .call 316 [.t 20, .t 21]⟩,
     ⟨some 5, none, .mov (.t 22)⟩] false [])
    (.keep [0, 5] (.seq
    (.region [⟨some 6, none, .mov (.c (.d (.sl 0 false [])))⟩] false [])
    (.keep [0, 5, 6] (.seq
     (.seq
     (.region [⟨some 7, none, .mov (.c (.d (.i .i64 0)))⟩] false [])
     (.keep [0, 5, 6, 7] (.block 0 (.loop [0, 5, 6, 7] false F318_spindlelaw15_NamesOrders_b0))))
     (.keep [0, 5, 6] (.seq
     (.region [⟨some 41, none, .mov (.t 0)⟩,
      ⟨some 42, none, .call 319 [.t 41]⟩,
      ⟨some 43, none, .call 320 [.t 42]⟩,
      ⟨some 40, none, .mov (.t 43)⟩,
      ⟨some 44, none, .extract 0 (.t 40)⟩,
      ⟨some 45, none, .extract 1 (.t 40)⟩,
      ⟨some 46, none, .extract 2 (.t 40)⟩,
      ⟨some 8, none, .alloc [.sl 0 false [], .sl 0 false []]⟩,
      ⟨none, none, .store 2 (.t 8) (.t 44)⟩,
      ⟨some 9, none, .mov (.t 45)⟩,
      ⟨some 10, none, .mov (.t 46)⟩] false [])
     (.keep [5, 6, 8, 9, 10] (.seq
      (.region [⟨some 48, none, .mov (.t 6)⟩,
       ⟨some 49, none, .call 320 [.t 48]⟩,
       ⟨some 47, none, .mov (.t 49)⟩,
       ⟨some 50, none, .extract 0 (.t 47)⟩,
       ⟨some 51, none, .extract 1 (.t 47)⟩,
       ⟨some 52, none, .extract 2 (.t 47)⟩,
       ⟨some 11, none, .alloc [.sl 0 false [], .sl 0 false []]⟩,
       ⟨none, none, .store 2 (.t 11) (.t 50)⟩,
       ⟨some 12, none, .mov (.t 51)⟩,
       ⟨some 13, none, .mov (.t 52)⟩] false [])
      (.keep [5, 8, 9, 10, 11, 12, 13] (.seq
      (.seq
       (.region [⟨some 53, none, .mov (.t 10)⟩,
        ⟨some 54, none, .call 12 [.t 53]⟩,
        ⟨some 55, none, .mov (.t 13)⟩,
        ⟨some 56, none, .call 12 [.t 55]⟩,
        ⟨some 57, none, .bin .neq (.t 54) (.t 56)⟩,
        ⟨some 58, none, .mov (.t 57)⟩,
        ⟨some 59, (some (5, false)), .mov (.t 9)⟩,
        ⟨some 60, (some (5, false)), .mov (.t 12)⟩,
        ⟨some 61, (some (5, false)), .bin .neq (.t 59) (.t 60)⟩,
        ⟨some 62, none, .pick (.t 58) (.c (.d (.b true))) (.t 61)⟩,
        ⟨some 63, none, .mov (.t 62)⟩,
        ⟨some 64, (some (10, false)), .faddr 0 (.t 8)⟩,
        ⟨some 65, (some (10, false)), .load 1 false (.t 64)⟩,
        ⟨some 66, (some (10, false)), .len false (.t 65)⟩,
        ⟨some 67, (some (10, false)), .faddr 0 (.t 11)⟩,
        ⟨some 68, (some (10, false)), .load 1 false (.t 67)⟩,
        ⟨some 69, (some (10, false)), .len false (.t 68)⟩,
        ⟨some 70, (some (10, false)), .bin .neq (.t 66) (.t 69)⟩,
        ⟨some 71, none, .pick (.t 63) (.c (.d (.b true))) (.t 70)⟩,
        ⟨some 72, none, .mov (.t 71)⟩,
        ⟨some 73, (some (19, false)), .faddr 1 (.t 8)⟩,
        ⟨some 74, (some (19, false)), .load 1 false (.t 73)⟩,
        ⟨some 75, (some (19, false)), .faddr 1 (.t 11)⟩,
        ⟨some 76, (some (19, false)), .load 1 false (.t 75)⟩,
        ⟨some 77, (some (19, false)), .call 321 [.t 74, .t 76]⟩,
        ⟨some 78, (some (19, false)), .un .not (.t 77)⟩,
        ⟨some 79, none, .pick (.t 72) (.c (.d (.b true))) (.t 78)⟩] false [])
       (.keep [5, 8, 11, 79] (.cond (.t 79)
       (.keep [] (.seq
        (.region [⟨some 4, none, .mov (.c (.d (.b false)))⟩] false [])
        (.ret)))
       (.skip))))
      (.keep [5, 8, 11] (.seq
       (.seq
       (.region [⟨some 14, none, .mov (.c (.d (.i .i64 0)))⟩] false [])
       (.keep [5, 8, 11, 14] (.block 2 (.loop [5, 8, 11, 14] true F318_spindlelaw15_NamesOrders_b1))))
       (.keep [] (.seq
       (.region [⟨some 4, none, .mov (.c (.d (.b true)))⟩] false [])
       (.ret)))))))))))))))))))⟩

def F322_spindlelaw15_NamesBind_b1 : SCode :=
  .seq
           (.seq
           (.region [⟨some 42, none, .mov (.t 8)⟩,
            ⟨some 43, none, .mov (.t 0)⟩,
            ⟨some 44, none, .mov (.t 7)⟩,
            ⟨some 45, none, .iaddr 5 (.t 43) (.t 44)⟩,
            ⟨some 46, none, .faddr 1 (.t 45)⟩,
            ⟨some 47, none, .load 1 false (.t 46)⟩,
            ⟨some 48, none, .len false (.t 47)⟩,
            ⟨some 49, none, .bin .lss (.t 42) (.t 48)⟩] false [])
           (.keep [0, 3, 6, 7, 8, 49] (.cond (.t 49)
            (.skip)
            (.exit 2))))
           (.keep [0, 3, 6, 7, 8] (.seq
           (.block 3 (.seq
            (.region [⟨some 52, none, .mov (.t 0)⟩,
             ⟨some 53, none, .mov (.t 7)⟩,
             ⟨some 54, none, .iaddr 5 (.t 52) (.t 53)⟩,
             ⟨some 55, none, .faddr 1 (.t 54)⟩,
             ⟨some 56, none, .load 1 false (.t 55)⟩,
             ⟨some 57, none, .mov (.t 8)⟩,
             ⟨some 58, none, .iaddr 4 (.t 56) (.t 57)⟩,
             ⟨some 59, none, .faddr 1 (.t 58)⟩,
             ⟨some 60, none, .load 1 false (.t 59)⟩] false [])
            (.keep [0, 3, 6, 7, 8, 60] (.cond (.t 60)
             (.keep [0, 3, 6, 7, 8] (.region [⟨some 61, none, .mov (.t 6)⟩,
              ⟨some 62, none, .bin .add (.t 61) (.c (.d (.i .i64 1)))⟩,
              ⟨some 6, none, .mov (.t 62)⟩] false []))
             (.skip)))))
           (.keep [0, 3, 6, 7, 8] (.region [⟨some 50, none, .mov (.t 8)⟩,
            ⟨some 51, none, .bin .add (.t 50) (.c (.d (.i .i64 1)))⟩,
            ⟨some 8, none, .mov (.t 51)⟩] false []))))
def F322_spindlelaw15_NamesBind_b2 : SCode :=
  .seq
           (.seq
            (.region [⟨some 63, none, .mov (.t 9)⟩,
             ⟨some 64, none, .mov (.t 0)⟩,
             ⟨some 65, none, .mov (.t 7)⟩,
             ⟨some 66, none, .iaddr 5 (.t 64) (.t 65)⟩,
             ⟨some 67, none, .faddr 3 (.t 66)⟩,
             ⟨some 68, none, .load 1 false (.t 67)⟩,
             ⟨some 69, none, .len false (.t 68)⟩,
             ⟨some 70, none, .bin .lss (.t 63) (.t 69)⟩] false [])
            (.keep [0, 3, 6, 7, 9, 70] (.cond (.t 70)
            (.skip)
            (.exit 4))))
           (.keep [0, 3, 6, 7, 9] (.seq
            (.block 5 (.seq
             (.region [⟨some 73, none, .load 2 true (.t 3)⟩,
              ⟨some 74, none, .mov (.t 0)⟩,
              ⟨some 75, none, .mov (.t 7)⟩,
              ⟨some 76, none, .iaddr 5 (.t 74) (.t 75)⟩,
              ⟨some 77, none, .faddr 3 (.t 76)⟩,
              ⟨some 78, none, .load 1 false (.t 77)⟩,
              ⟨some 79, none, .mov (.t 9)⟩,
              ⟨some 80, none, .iaddr 1 (.t 78) (.t 79)⟩,
              ⟨some 81, none, .load 1 false (.t 80)⟩,
              ⟨some 82, none, .call 323 [.t 73, .t 81]⟩,
              ⟨some 83, none, .un .not (.t 82)⟩] true [0, 0, 0, 6, 14, 30, 0, 126, 254, 511, 1023])
             (.keep [0, 3, 6, 7, 9, 83] (.cond (.t 83)
             (.keep [] (.seq
              (.region [⟨some 2, none, .mov (.c (.d (.b false)))⟩] false [])
              (.ret)))
             (.skip)))))
            (.keep [0, 3, 6, 7, 9] (.region [⟨some 71, none, .mov (.t 9)⟩,
             ⟨some 72, none, .bin .add (.t 71) (.c (.d (.i .i64 1)))⟩,
             ⟨some 9, none, .mov (.t 72)⟩] false []))))
def F322_spindlelaw15_NamesBind_b3 : SCode :=
  .seq
           (.seq
            (.region [⟨some 84, none, .mov (.t 10)⟩,
             ⟨some 85, none, .mov (.t 0)⟩,
             ⟨some 86, none, .mov (.t 7)⟩,
             ⟨some 87, none, .iaddr 5 (.t 85) (.t 86)⟩,
             ⟨some 88, none, .faddr 2 (.t 87)⟩,
             ⟨some 89, none, .load 1 false (.t 88)⟩,
             ⟨some 90, none, .len false (.t 89)⟩,
             ⟨some 91, none, .bin .lss (.t 84) (.t 90)⟩] false [])
            (.keep [0, 3, 6, 7, 10, 91] (.cond (.t 91)
            (.skip)
            (.exit 6))))
           (.keep [0, 3, 6, 7, 10] (.seq
            (.block 7 (.seq
             (.region [⟨some 94, none, .load 2 true (.t 3)⟩,
              ⟨some 95, none, .mov (.t 0)⟩,
              ⟨some 96, none, .mov (.t 7)⟩,
              ⟨some 97, none, .iaddr 5 (.t 95) (.t 96)⟩,
              ⟨some 98, none, .faddr 2 (.t 97)⟩,
              ⟨some 99, none, .load 1 false (.t 98)⟩,
              ⟨some 100, none, .mov (.t 10)⟩,
              ⟨some 101, none, .iaddr 5 (.t 99) (.t 100)⟩,
              ⟨some 102, none, .load 5 true (.t 101)⟩,
              ⟨some 103, none, .call 324 [.t 94, .t 102]⟩,
              ⟨some 104, none, .un .not (.t 103)⟩] true [0, 0, 0, 6, 14, 30, 0, 126, 254, 511, 1023])
             (.keep [0, 3, 6, 7, 10, 104] (.cond (.t 104)
             (.keep [] (.seq
              (.region [⟨some 2, none, .mov (.c (.d (.b false)))⟩] false [])
              (.ret)))
             (.skip)))))
            (.keep [0, 3, 6, 7, 10] (.region [⟨some 92, none, .mov (.t 10)⟩,
             ⟨some 93, none, .bin .add (.t 92) (.c (.d (.i .i64 1)))⟩,
             ⟨some 10, none, .mov (.t 93)⟩] false []))))
def F322_spindlelaw15_NamesBind_b0 : SCode :=
  .seq
       (.seq
        (.region [⟨some 36, none, .mov (.t 7)⟩,
         ⟨some 37, none, .mov (.t 0)⟩,
         ⟨some 38, none, .len false (.t 37)⟩,
         ⟨some 39, none, .bin .lss (.t 36) (.t 38)⟩] false [])
        (.keep [0, 3, 6, 7, 39] (.cond (.t 39)
        (.skip)
        (.exit 0))))
       (.keep [0, 3, 6, 7] (.seq
        (.block 1 (.seq
         (.seq
         (.region [⟨some 8, none, .mov (.c (.d (.i .i64 0)))⟩] false [])
         (.keep [0, 3, 6, 7, 8] (.block 2 (.loop [0, 3, 6, 7, 8] false F322_spindlelaw15_NamesBind_b1))))
         (.keep [0, 3, 6, 7] (.seq
         (.seq
          (.region [⟨some 9, none, .mov (.c (.d (.i .i64 0)))⟩] false [])
          (.keep [0, 3, 6, 7, 9] (.block 4 (.loop [0, 3, 6, 7, 9] false F322_spindlelaw15_NamesBind_b2))))
         (.keep [0, 3, 6, 7] (.seq
          (.region [⟨some 10, none, .mov (.c (.d (.i .i64 0)))⟩] false [])
          (.keep [0, 3, 6, 7, 10] (.block 6 (.loop [0, 3, 6, 7, 10] false F322_spindlelaw15_NamesBind_b3)))))))))
        (.keep [0, 3, 6, 7] (.region [⟨some 40, none, .mov (.t 7)⟩,
         ⟨some 41, none, .bin .add (.t 40) (.c (.d (.i .i64 1)))⟩,
         ⟨some 7, none, .mov (.t 41)⟩] false []))))
def F322_spindlelaw15_NamesBind_b4 : SCode :=
  .seq
        (.seq
        (.region [⟨some 105, none, .mov (.t 11)⟩,
         ⟨some 106, none, .faddr 0 (.t 3)⟩,
         ⟨some 107, none, .load 1 false (.t 106)⟩,
         ⟨some 108, none, .len false (.t 107)⟩,
         ⟨some 109, none, .bin .lss (.t 105) (.t 108)⟩] false [])
        (.keep [0, 3, 6, 11, 109] (.cond (.t 109)
         (.skip)
         (.exit 8))))
        (.keep [0, 3, 6, 11] (.seq
        (.block 9 (.seq
         (.region [⟨some 112, none, .faddr 0 (.t 3)⟩,
          ⟨some 113, none, .load 1 false (.t 112)⟩,
          ⟨some 114, none, .mov (.t 11)⟩,
          ⟨some 115, none, .iaddr 3 (.t 113) (.t 114)⟩,
          ⟨some 116, none, .load 3 true (.t 115)⟩,
          ⟨some 12, none, .alloc [.s [], .i .i64 0, .i .i64 0]⟩,
          ⟨none, none, .store 3 (.t 12) (.t 116)⟩] false [])
         (.keep [0, 3, 6, 11, 12] (.seq
          (.seq
          (.region [⟨some 117, none, .mov (.t 11)⟩,
           ⟨some 118, none, .bin .gtr (.t 117) (.c (.d (.i .i64 0)))⟩,
           ⟨some 119, none, .mov (.t 118)⟩,
           ⟨some 120, (some (2, true)), .faddr 0 (.t 3)⟩,
           ⟨some 121, (some (2, true)), .load 1 false (.t 120)⟩,
           ⟨some 122, (some (2, true)), .mov (.t 11)⟩,
           ⟨some 123, (some (2, true)), .bin .sub (.t 122) (.c (.d (.i .i64 1)))⟩,
           ⟨some 124, (some (2, true)), .iaddr 3 (.t 121) (.t 123)⟩,
           ⟨some 125, (some (2, true)), .faddr 0 (.t 124)⟩,
           ⟨some 126, (some (2, true)), .load 1 false (.t 125)⟩,
           ⟨some 127, (some (2, true)), .faddr 0 (.t 12)⟩,
           ⟨some 128, (some (2, true)), .load 1 false (.t 127)⟩,
           ⟨some 129, (some (2, true)), .bin .geq (.t 126) (.t 128)⟩,
           ⟨some 130, none, .pick (.t 119) (.t 129) (.c (.d (.b false)))⟩,
           ⟨some 131, none, .mov (.t 130)⟩,
           ⟨some 132, (some (14, false)), .faddr 1 (.t 12)⟩,
           ⟨some 133, (some (14, false)), .load 1 false (.t 132)⟩,
           ⟨some 134, (some (14, false)), .bin .lss (.t 133) (.c (.d (.i .i64 0)))⟩,
           ⟨some 135, none, .pick (.t 131) (.c (.d (.b true))) (.t 134)⟩,
           ⟨some 136, none, .mov (.t 135)⟩,
           ⟨some 137, (some (19, false)), .faddr 1 (.t 12)⟩,
           ⟨some 138, (some (19, false)), .load 1 false (.t 137)⟩,
           ⟨some 139, (some (19, false)), .mov (.t 0)⟩,
           ⟨some 140, (some (19, false)), .len false (.t 139)⟩,
           ⟨some 141, (some (19, false)), .bin .geq (.t 138) (.t 140)⟩,
           ⟨some 142, none, .pick (.t 136) (.c (.d (.b true))) (.t 141)⟩,
           ⟨some 143, none, .mov (.t 142)⟩,
           ⟨some 144, (some (26, false)), .faddr 2 (.t 12)⟩,
           ⟨some 145, (some (26, false)), .load 1 false (.t 144)⟩,
           ⟨some 146, (some (26, false)), .bin .lss (.t 145) (.c (.d (.i .i64 0)))⟩,
           ⟨some 147, none, .pick (.t 143) (.c (.d (.b true))) (.t 146)⟩,
           ⟨some 148, none, .mov (.t 147)⟩,
           ⟨some 149, (some (31, false)), .faddr 2 (.t 12)⟩,
           ⟨some 150, (some (31, false)), .load 1 false (.t 149)⟩,
           ⟨some 151, (some (31, false)), .mov (.t 0)⟩,
           ⟨some 152, (some (31, false)), .faddr 1 (.t 12)⟩,
           ⟨some 153, (some (31, false)), .load 1 false (.t 152)⟩,
           ⟨some 154, (some (31, false)), .iaddr 5 (.t 151) (.t 153)⟩,
           ⟨some 155, (some (31, false)), .faddr 1 (.t 154)⟩,
           ⟨some 156, (some (31, false)), .load 1 false (.t 155)⟩,
           ⟨some 157, (some (31, false)), .len false (.t 156)⟩,
           ⟨some 158, (some (31, false)), .bin .geq (.t 150) (.t 157)⟩,
           ⟨some 159, none, .pick (.t 148) (.c (.d (.b true))) (.t 158)⟩] true [0, 1, 3, 7, 15, 7, 39, 127, 255, 511, 7, 1031, 4095, 8191, 16383, 32767, 65535, 131071, 262143, 524287, 1048575, 2097151, 1048575, 5242879, 16777215, 33554431, 67108863, 134217727, 268435455, 536870911, 1073741823, 2147483647, 4294967295, 8589934591, 4294967295, 4294967295, 38654705663, 124554051583, 261993005055, 536870911999, 1086626725887, 2199023255551, 4398046511103])
          (.keep [0, 3, 6, 11, 12, 159] (.cond (.t 159)
           (.keep [] (.seq
           (.region [⟨some 2, none, .mov (.c (.d (.b false)))⟩] false [])
           (.ret)))
           (.skip))))
          (.keep [0, 3, 6, 11, 12] (.seq
          (.region [⟨some 160, none, .mov (.t 0)⟩,
           ⟨some 161, none, .faddr 1 (.t 12)⟩,
           ⟨some 162, none, .load 1 false (.t 161)⟩,
           ⟨some 163, none, .iaddr 5 (.t 160) (.t 162)⟩,
           ⟨some 164, none, .faddr 1 (.t 163)⟩,
           ⟨some 165, none, .load 1 false (.t 164)⟩,
           ⟨some 166, none, .faddr 2 (.t 12)⟩,
           ⟨some 167, none, .load 1 false (.t 166)⟩,
           ⟨some 168, none, .iaddr 4 (.t 165) (.t 167)⟩,
           ⟨some 169, none, .load 4 true (.t 168)⟩,
           ⟨some 13, none, .alloc [.s [], .b false, .i .i64 0, .i .i64 0]⟩,
           ⟨none, none, .store 4 (.t 13) (.t 169)⟩] true [0, 0, 2, 7, 15, 31, 0, 64, 255, 511, 0, 2047])
          (.keep [0, 3, 6, 11, 12, 13] (.seq
           (.region [⟨some 170, none, .faddr 0 (.t 13)⟩,
            ⟨some 171, none, .load 1 false (.t 170)⟩,
            ⟨some 172, none, .faddr 0 (.t 12)⟩,
            ⟨some 173, none, .load 1 false (.t 172)⟩,
            ⟨some 174, none, .bin .neq (.t 171) (.t 173)⟩,
            ⟨some 175, none, .mov (.t 174)⟩,
            ⟨some 176, (some (5, false)), .faddr 1 (.t 13)⟩,
            ⟨some 177, (some (5, false)), .load 1 false (.t 176)⟩,
            ⟨some 178, (some (5, false)), .un .not (.t 177)⟩,
            ⟨some 179, none, .pick (.t 175) (.c (.d (.b true))) (.t 178)⟩] false [])
           (.keep [0, 3, 6, 11, 179] (.cond (.t 179)
           (.keep [] (.seq
            (.region [⟨some 2, none, .mov (.c (.d (.b false)))⟩] false [])
            (.ret)))
           (.skip)))))))))))
        (.keep [0, 3, 6, 11] (.region [⟨some 110, none, .mov (.t 11)⟩,
         ⟨some 111, none, .bin .add (.t 110) (.c (.d (.i .i64 1)))⟩,
         ⟨some 11, none, .mov (.t 111)⟩] false []))))
/-- spindle/spindlelaw15.NamesBind -/
def F322_spindlelaw15_NamesBind : SFn := ⟨1, true, true, [.tmp 2],
  .seq
   (.region [⟨some 2, none, .mov (.c (.d (.b false)))⟩] false [])
   (.keep [0] (.seq
   (.seq
    (.region [⟨some 14, none, .call 315 []⟩,
     ⟨some 15, none, .un .not (.t 14)⟩] false [])
    (.keep [0, 15] (.cond (.t 15)
    (.keep [] (.seq
     (.region [⟨some 2, none, .mov (.c (.d (.b false)))⟩] false [])
     (.ret)))
    (.skip))))
   (.keep [0] (.seq
    (.region [⟨some 17, none, .mov (.t 0)⟩,
     ⟨some 18, none, .call 319 [.t 17]⟩,
     ⟨some 19, none, .call 320 [.t 18]⟩,
     ⟨some 16, none, .mov (.t 19)⟩,
     ⟨some 20, none, .extract 0 (.t 16)⟩,
     ⟨some 21, none, .extract 1 (.t 16)⟩,
     ⟨some 22, none, .extract 2 (.t 16)⟩,
     ⟨some 3, none, .alloc [.sl 0 false [], .sl 0 false []]⟩,
     ⟨none, none, .store 2 (.t 3) (.t 20)⟩,
     ⟨some 4, none, .mov (.t 21)⟩,
     ⟨some 5, none, .mov (.t 22)⟩] false [])
    (.keep [0, 3, 5] (.seq
    (.seq
     (.region [⟨some 23, none, .mov (.t 5)⟩,
      ⟨some 24, none, .call 12 [.t 23]⟩,
      ⟨some 25, none, .bin .neq (.t 24) (.c (.d (.i .i64 0)))⟩] false [])
     (.keep [0, 3, 25] (.cond (.t 25)
     (.keep [3] (.seq
      (.region [⟨some 26, none, .faddr 0 (.t 3)⟩,
       ⟨some 27, none, .load 1 false (.t 26)⟩,
       ⟨some 28, none, .len false (.t 27)⟩,
       ⟨some 29, none, .bin .eql (.t 28) (.c (.d (.i .i64 0)))⟩,
       ⟨some 30, none, .mov (.t 29)⟩,
       ⟨some 31, (some (4, true)), .faddr 1 (.t 3)⟩,
       ⟨some 32, (some (4, true)), .load 1 false (.t 31)⟩,
       ⟨some 33, (some (4, true)), .len false (.t 32)⟩,
       ⟨some 34, (some (4, true)), .bin .eql (.t 33) (.c (.d (.i .i64 0)))⟩,
       ⟨some 35, none, .pick (.t 30) (.t 34) (.c (.d (.b false)))⟩,
       ⟨some 2, none, .mov (.t 35)⟩] false [])
      (.ret)))
     (.skip))))
    (.keep [0, 3] (.seq
     (.region [⟨some 6, none, .mov (.c (.d (.i .i64 0)))⟩] false [])
     (.keep [0, 3, 6] (.seq
     (.seq
      (.region [⟨some 7, none, .mov (.c (.d (.i .i64 0)))⟩] false [])
      (.keep [0, 3, 6, 7] (.block 0 (.loop [0, 3, 6, 7] false F322_spindlelaw15_NamesBind_b0))))
     (.keep [0, 3, 6] (.seq
      (.seq
      (.region [⟨some 11, none, .mov (.c (.d (.i .i64 0)))⟩] false [])
      (.keep [0, 3, 6, 11] (.block 8 (.loop [0, 3, 6, 11] true F322_spindlelaw15_NamesBind_b4))))
      (.keep [3, 6] (.seq
      (.region [⟨some 180, none, .mov (.t 6)⟩,
       ⟨some 181, none, .faddr 0 (.t 3)⟩,
       ⟨some 182, none, .load 1 false (.t 181)⟩,
       ⟨some 183, none, .len false (.t 182)⟩,
       ⟨some 184, none, .bin .eql (.t 180) (.t 183)⟩,
       ⟨some 2, none, .mov (.t 184)⟩] false [])
      (.ret)))))))))))))))⟩

def F323_spindlelaw15_bound_b0 : SCode :=
  .seq
     (.seq
      (.region [⟨some 6, none, .mov (.t 5)⟩,
       ⟨some 7, none, .faddr 0 (.t 2)⟩,
       ⟨some 8, none, .load 1 false (.t 7)⟩,
       ⟨some 9, none, .len false (.t 8)⟩,
       ⟨some 10, none, .bin .lss (.t 6) (.t 9)⟩] false [])
      (.keep [1, 2, 5, 10] (.cond (.t 10)
      (.skip)
      (.exit 0))))
     (.keep [1, 2, 5] (.seq
      (.block 1 (.seq
       (.region [⟨some 13, none, .faddr 0 (.t 2)⟩,
        ⟨some 14, none, .load 1 false (.t 13)⟩,
        ⟨some 15, none, .mov (.t 5)⟩,
        ⟨some 16, none, .iaddr 3 (.t 14) (.t 15)⟩,
        ⟨some 17, none, .faddr 0 (.t 16)⟩,
        ⟨some 18, none, .load 1 false (.t 17)⟩,
        ⟨some 19, none, .mov (.t 1)⟩,
        ⟨some 20, none, .bin .eql (.t 18) (.t 19)⟩] false [])
       (.keep [1, 2, 5, 20] (.cond (.t 20)
       (.keep [] (.seq
        (.region [⟨some 4, none, .mov (.c (.d (.b true)))⟩] false [])
        (.ret)))
       (.skip)))))
      (.keep [1, 2, 5] (.region [⟨some 11, none, .mov (.t 5)⟩,
       ⟨some 12, none, .bin .add (.t 11) (.c (.d (.i .i64 1)))⟩,
       ⟨some 5, none, .mov (.t 12)⟩] false []))))
/-- spindle/spindlelaw15.bound -/
def F323_spindlelaw15_bound : SFn := ⟨2, true, true, [.tmp 4],
  .seq
   (.region [⟨some 2, none, .box (.t 0)⟩,
    ⟨some 4, none, .mov (.c (.d (.b false)))⟩] false [])
   (.keep [1, 2] (.seq
   (.seq
    (.region [⟨some 5, none, .mov (.c (.d (.i .i64 0)))⟩] false [])
    (.keep [1, 2, 5] (.block 0 (.loop [1, 2, 5] false F323_spindlelaw15_bound_b0))))
   (.keep [] (.seq
    (.region [⟨some 4, none, .mov (.c (.d (.b false)))⟩] false [])
    (.ret)))))⟩

def F324_spindlelaw15_shaped_b0 : SCode :=
  .seq
     (.seq
      (.region [⟨some 6, none, .mov (.t 5)⟩,
       ⟨some 7, none, .faddr 1 (.t 2)⟩,
       ⟨some 8, none, .load 1 false (.t 7)⟩,
       ⟨some 9, none, .len false (.t 8)⟩,
       ⟨some 10, none, .bin .lss (.t 6) (.t 9)⟩] false [])
      (.keep [2, 3, 5, 10] (.cond (.t 10)
      (.skip)
      (.exit 0))))
     (.keep [2, 3, 5] (.seq
      (.block 1 (.seq
       (.region [⟨some 13, none, .faddr 1 (.t 2)⟩,
        ⟨some 14, none, .load 1 false (.t 13)⟩,
        ⟨some 15, none, .mov (.t 5)⟩,
        ⟨some 16, none, .iaddr 5 (.t 14) (.t 15)⟩,
        ⟨some 17, none, .load 5 true (.t 16)⟩,
        ⟨some 18, none, .load 5 true (.t 3)⟩,
        ⟨some 19, none, .eqv false [9, 2, 0, 0, 0, 0] (.t 17) (.t 18)⟩] true [0, 1, 0, 7, 15, 0, 63])
       (.keep [2, 3, 5, 19] (.cond (.t 19)
       (.keep [] (.seq
        (.region [⟨some 4, none, .mov (.c (.d (.b true)))⟩] false [])
        (.ret)))
       (.skip)))))
      (.keep [2, 3, 5] (.region [⟨some 11, none, .mov (.t 5)⟩,
       ⟨some 12, none, .bin .add (.t 11) (.c (.d (.i .i64 1)))⟩,
       ⟨some 5, none, .mov (.t 12)⟩] false []))))
/-- spindle/spindlelaw15.shaped -/
def F324_spindlelaw15_shaped : SFn := ⟨2, true, true, [.tmp 4],
  .seq
   (.region [⟨some 2, none, .box (.t 0)⟩,
    ⟨some 3, none, .box (.t 1)⟩,
    ⟨some 4, none, .mov (.c (.d (.b false)))⟩] false [])
   (.keep [2, 3] (.seq
   (.seq
    (.region [⟨some 5, none, .mov (.c (.d (.i .i64 0)))⟩] false [])
    (.keep [2, 3, 5] (.block 0 (.loop [2, 3, 5] false F324_spindlelaw15_shaped_b0))))
   (.keep [] (.seq
    (.region [⟨some 4, none, .mov (.c (.d (.b false)))⟩] false [])
    (.ret)))))⟩

/-- spindle/spindlelaw15.one -/
def F325_spindlelaw15_one : SFn := ⟨3, true, true, [.cell 6 5 true],
  .seq
   (.region [⟨some 6, none, .alloc [.sl 0 false [], .sl 0 false [], .sl 0 false [], .sl 0 false [], .sl 0 false []]⟩] false [])
   (.keep [0, 1, 2, 6] (.seq
   (.region [⟨some 7, none, .build [.i .i64 0, .i .i64 0, .i .i64 0, .i .i64 0, .i .i64 0] [(0, 1, .c (.d (.i .i64 149)))]⟩,
    ⟨some 8, none, .lits 1 [.i .i64 0, .i .i64 0, .i .i64 0, .i .i64 0, .i .i64 0] [(0, 5, .t 7)]⟩,
    ⟨some 9, none, .mov (.t 0)⟩,
    ⟨some 10, none, .mov (.t 1)⟩,
    ⟨some 11, none, .build [.s [], .b false, .i .i64 0, .i .i64 0] [(0, 1, .t 9), (1, 1, .t 10), (3, 1, .c (.d (.i .i64 1)))]⟩,
    ⟨some 12, none, .lits 1 [.s [], .b false, .i .i64 0, .i .i64 0] [(0, 4, .t 11)]⟩,
    ⟨some 13, none, .mov (.t 2)⟩,
    ⟨some 14, none, .build [.sl 0 false [], .sl 0 false [], .sl 0 false [], .sl 0 false [], .sl 0 false []] [(0, 1, .t 8), (1, 1, .t 12), (3, 1, .t 13)]⟩,
    ⟨none, none, .store 5 (.t 6) (.t 14)⟩] false [])
   (.ret)))⟩
end Go.Sh
