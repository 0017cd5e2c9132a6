/- Shadow functions of law2, written by tr.py. -/
import Derived.Test.YtnemobbnlacmjaaDoorShBa
namespace Go.Sh
/-- spindle/spindlelaw2.awake -/
def F25_spindlelaw2_awake : SFn := ⟨0, true, true, [.tmp 0],
  .seq
   (.region [⟨some 0, none, .mov (.c (.d (.b false)))⟩] false [])
   (.keep [] (.seq
   (.region [⟨some 3, none, .build [.i .i64 0, .i .i64 0, .i .i64 0, .i .i64 0, .i .i64 0] [(0, 1, .c (.d (.i .i64 55))), (1, 1, .c (.d (.i .i64 1))), (3, 1, .c (.d (.i .i64 1))), (4, 1, .c (.d (.i .i64 5)))]⟩,
    ⟨some 4, none, .call 27 [.t 3]⟩,
    ⟨some 1, none, .mov (.t 4)⟩] false [])
   (.keep [1] (.seq
    (.region [⟨some 5, none, .build [.i .i64 0, .i .i64 0, .i .i64 0, .i .i64 0, .i .i64 0] [(0, 1, .c (.d (.i .i64 39))), (1, 1, .c (.d (.i .i64 1))), (3, 1, .c (.d (.i .i64 1))), (4, 1, .c (.d (.i .i64 5)))]⟩,
     ⟨some 6, none, .call 27 [.t 5]⟩,
     ⟨some 2, none, .mov (.t 6)⟩] false [])
    (.keep [1, 2] (.seq
    (.region [⟨some 7, none, .mov (.t 1)⟩,
     ⟨some 8, none, .bin .eql (.t 7) (.c (.d (.i .i64 0)))⟩,
     ⟨some 9, none, .mov (.t 8)⟩,
     ⟨some 10, (some (2, true)), .mov (.t 2)⟩,
     ⟨some 11, (some (2, true)), .bin .eql (.t 10) (.c (.d (.i .i64 21)))⟩,
     ⟨some 12, none, .pick (.t 9) (.t 11) (.c (.d (.b false)))⟩,
     ⟨some 0, none, .mov (.t 12)⟩] false [])
    (.ret)))))))⟩

def F66_spindlelaw2_IsaMay_b0 : SCode :=
  .seq
     (.seq
      (.region [⟨some 6, none, .mov (.t 3)⟩,
       ⟨some 7, none, .mov (.t 0)⟩,
       ⟨some 8, none, .len false (.t 7)⟩,
       ⟨some 9, none, .bin .lss (.t 6) (.t 8)⟩] false [])
      (.keep [0, 3, 9] (.cond (.t 9)
      (.skip)
      (.exit 0))))
     (.keep [0, 3] (.seq
      (.block 1 (.seq
       (.region [⟨some 12, none, .mov (.t 0)⟩,
        ⟨some 13, none, .mov (.t 3)⟩,
        ⟨some 14, none, .iaddr 5 (.t 12) (.t 13)⟩,
        ⟨some 15, none, .load 5 true (.t 14)⟩,
        ⟨some 16, none, .call 65 [.t 15]⟩,
        ⟨some 4, none, .mov (.t 16)⟩] false [])
       (.keep [0, 3, 4] (.seq
       (.region [⟨some 17, none, .mov (.t 0)⟩,
        ⟨some 18, none, .mov (.t 3)⟩,
        ⟨some 19, none, .iaddr 5 (.t 17) (.t 18)⟩,
        ⟨some 20, none, .load 5 true (.t 19)⟩,
        ⟨some 21, none, .call 27 [.t 20]⟩,
        ⟨some 5, none, .mov (.t 21)⟩] false [])
       (.keep [0, 3, 4, 5] (.seq
        (.region [⟨some 22, none, .mov (.t 5)⟩,
         ⟨some 23, none, .call 12 [.t 22]⟩,
         ⟨some 24, none, .mov (.t 4)⟩,
         ⟨some 25, none, .bin .neq (.t 23) (.t 24)⟩] false [])
        (.keep [0, 3, 25] (.cond (.t 25)
        (.keep [] (.seq
         (.region [⟨some 2, none, .mov (.c (.d (.b false)))⟩] false [])
         (.ret)))
        (.skip)))))))))
      (.keep [0, 3] (.region [⟨some 10, none, .mov (.t 3)⟩,
       ⟨some 11, none, .bin .add (.t 10) (.c (.d (.i .i64 1)))⟩,
       ⟨some 3, none, .mov (.t 11)⟩] false []))))
/-- spindle/spindlelaw2.IsaMay -/
def F66_spindlelaw2_IsaMay : SFn := ⟨1, true, true, [.tmp 2],
  .seq
   (.region [⟨some 2, none, .mov (.c (.d (.b false)))⟩] false [])
   (.keep [0] (.seq
   (.seq
    (.region [⟨some 3, none, .mov (.c (.d (.i .i64 0)))⟩] false [])
    (.keep [0, 3] (.block 0 (.loop [0, 3] false F66_spindlelaw2_IsaMay_b0))))
   (.keep [] (.seq
    (.region [⟨some 26, none, .call 25 []⟩,
     ⟨some 2, none, .mov (.t 26)⟩] false [])
    (.ret)))))⟩

def F90_spindlelaw2_IsaTells_b0 : SCode :=
  .seq
     (.seq
      (.region [⟨some 9, none, .mov (.t 3)⟩,
       ⟨some 10, none, .mov (.t 0)⟩,
       ⟨some 11, none, .len false (.t 10)⟩,
       ⟨some 12, none, .bin .lss (.t 9) (.t 11)⟩] false [])
      (.keep [0, 3, 12] (.cond (.t 12)
      (.skip)
      (.exit 0))))
     (.keep [0, 3] (.seq
      (.block 1 (.seq
       (.region [⟨some 15, none, .mov (.t 0)⟩,
        ⟨some 16, none, .mov (.t 3)⟩,
        ⟨some 17, none, .iaddr 5 (.t 15) (.t 16)⟩,
        ⟨some 18, none, .load 5 true (.t 17)⟩,
        ⟨some 4, none, .alloc [.i .i64 0, .i .i64 0, .i .i64 0, .i .i64 0, .i .i64 0]⟩,
        ⟨none, none, .store 5 (.t 4) (.t 18)⟩] false [])
       (.keep [0, 3, 4] (.seq
       (.region [⟨some 19, none, .load 5 true (.t 4)⟩,
        ⟨some 20, none, .call 82 [.t 19]⟩,
        ⟨some 5, none, .mov (.t 20)⟩] false [])
       (.keep [0, 3, 4, 5] (.seq
        (.region [⟨some 21, none, .load 5 true (.t 4)⟩,
         ⟨some 22, none, .call 83 [.t 21]⟩,
         ⟨some 6, none, .mov (.t 22)⟩] false [])
        (.keep [0, 3, 4, 5, 6] (.seq
        (.region [⟨some 23, none, .load 5 true (.t 4)⟩,
         ⟨some 24, none, .call 84 [.t 23]⟩,
         ⟨some 7, none, .mov (.t 24)⟩] false [])
        (.keep [0, 3, 4, 5, 6, 7] (.seq
         (.region [⟨some 25, none, .load 5 true (.t 4)⟩,
          ⟨some 26, none, .call 85 [.t 25]⟩,
          ⟨some 8, none, .mov (.t 26)⟩] false [])
         (.keep [0, 3, 4, 5, 6, 7, 8] (.seq
         (.region [⟨some 27, none, .mov (.t 5)⟩,
          ⟨some 28, none, .load 5 true (.t 4)⟩,
          ⟨some 29, none, .call 86 [.t 28]⟩,
          ⟨some 30, none, .call 16 [.t 27, .t 29]⟩,
          ⟨some 31, none, .un .not (.t 30)⟩,
          ⟨some 32, none, .mov (.t 31)⟩,
          ⟨some 33, (some (5, false)), .mov (.t 6)⟩,
          ⟨some 34, (some (5, false)), .load 5 true (.t 4)⟩,
          ⟨some 35, (some (5, false)), .call 87 [.t 34]⟩,
          ⟨some 36, (some (5, false)), .call 16 [.t 33, .t 35]⟩,
          ⟨some 37, (some (5, false)), .un .not (.t 36)⟩,
          ⟨some 38, none, .pick (.t 32) (.c (.d (.b true))) (.t 37)⟩,
          ⟨some 39, none, .mov (.t 38)⟩,
          ⟨some 40, (some (12, false)), .mov (.t 7)⟩,
          ⟨some 41, (some (12, false)), .load 5 true (.t 4)⟩,
          ⟨some 42, (some (12, false)), .call 88 [.t 41]⟩,
          ⟨some 43, (some (12, false)), .bin .neq (.t 40) (.t 42)⟩,
          ⟨some 44, none, .pick (.t 39) (.c (.d (.b true))) (.t 43)⟩,
          ⟨some 45, none, .mov (.t 44)⟩,
          ⟨some 46, (some (18, false)), .mov (.t 8)⟩,
          ⟨some 47, (some (18, false)), .load 5 true (.t 4)⟩,
          ⟨some 48, (some (18, false)), .call 89 [.t 47]⟩,
          ⟨some 49, (some (18, false)), .eqv true [1] (.t 46) (.t 48)⟩,
          ⟨some 50, none, .pick (.t 45) (.c (.d (.b true))) (.t 49)⟩] false [])
         (.keep [0, 3, 50] (.cond (.t 50)
          (.keep [] (.seq
          (.region [⟨some 2, none, .mov (.c (.d (.b false)))⟩] false [])
          (.ret)))
          (.skip)))))))))))))))
      (.keep [0, 3] (.region [⟨some 13, none, .mov (.t 3)⟩,
       ⟨some 14, none, .bin .add (.t 13) (.c (.d (.i .i64 1)))⟩,
       ⟨some 3, none, .mov (.t 14)⟩] false []))))
/-- spindle/spindlelaw2.IsaTells -/
def F90_spindlelaw2_IsaTells : SFn := ⟨1, true, true, [.tmp 2],
  .seq
   (.region [⟨some 2, none, .mov (.c (.d (.b false)))⟩] false [])
   (.keep [0] (.seq
   (.seq
    (.region [⟨some 3, none, .mov (.c (.d (.i .i64 0)))⟩] false [])
    (.keep [0, 3] (.block 0 (.loop [0, 3] true F90_spindlelaw2_IsaTells_b0))))
   (.keep [] (.seq
    (.region [⟨some 51, none, .call 25 []⟩,
     ⟨some 2, none, .mov (.t 51)⟩] false [])
    (.ret)))))⟩

def F227_spindlelaw2_IsaOwns_b1 : SCode :=
  .seq
         (.seq
          (.region [⟨some 18, none, .mov (.t 5)⟩,
           ⟨some 19, none, .bin .lss (.t 18) (.c (.d (.i .i64 3)))⟩] false [])
          (.keep [0, 3, 4, 5, 19] (.cond (.t 19)
          (.skip)
          (.exit 2))))
         (.keep [0, 3, 4, 5] (.seq
          (.block 3 (.seq
           (.region [⟨some 22, none, .mov (.t 0)⟩,
            ⟨some 23, none, .mov (.t 4)⟩,
            ⟨some 24, none, .iaddr 5 (.t 22) (.t 23)⟩,
            ⟨some 25, none, .load 5 true (.t 24)⟩,
            ⟨some 26, none, .call 236 [.t 25]⟩,
            ⟨some 6, none, .mov (.t 26)⟩] false [])
           (.keep [0, 3, 4, 5, 6] (.seq
           (.region [⟨some 27, none, .mov (.t 0)⟩,
            ⟨some 28, none, .mov (.t 4)⟩,
            ⟨some 29, none, .iaddr 5 (.t 27) (.t 28)⟩,
            ⟨some 30, none, .load 5 true (.t 29)⟩,
            ⟨some 31, none, .call 237 [.t 30]⟩,
            ⟨some 7, none, .mov (.t 31)⟩] false [])
           (.keep [0, 3, 4, 5, 6, 7] (.seq
            (.seq
            (.region [⟨some 32, none, .mov (.t 6)⟩,
             ⟨some 33, none, .mov (.t 0)⟩,
             ⟨some 34, none, .mov (.t 4)⟩,
             ⟨some 35, none, .iaddr 5 (.t 33) (.t 34)⟩,
             ⟨some 36, none, .load 5 true (.t 35)⟩,
             ⟨some 37, none, .call 86 [.t 36]⟩,
             ⟨some 38, none, .call 16 [.t 32, .t 37]⟩,
             ⟨some 39, none, .un .not (.t 38)⟩,
             ⟨some 40, none, .mov (.t 39)⟩,
             ⟨some 41, (some (8, false)), .mov (.t 7)⟩,
             ⟨some 42, (some (8, false)), .mov (.t 0)⟩,
             ⟨some 43, (some (8, false)), .mov (.t 4)⟩,
             ⟨some 44, (some (8, false)), .iaddr 5 (.t 42) (.t 43)⟩,
             ⟨some 45, (some (8, false)), .load 5 true (.t 44)⟩,
             ⟨some 46, (some (8, false)), .call 87 [.t 45]⟩,
             ⟨some 47, (some (8, false)), .call 16 [.t 41, .t 46]⟩,
             ⟨some 48, (some (8, false)), .un .not (.t 47)⟩,
             ⟨some 49, none, .pick (.t 40) (.c (.d (.b true))) (.t 48)⟩] false [])
            (.keep [0, 3, 4, 5, 6, 7, 49] (.cond (.t 49)
             (.keep [] (.seq
             (.region [⟨some 2, none, .mov (.c (.d (.b false)))⟩] false [])
             (.ret)))
             (.skip))))
            (.keep [0, 3, 4, 5, 6, 7] (.seq
            (.region [⟨some 50, none, .mov (.t 3)⟩,
             ⟨some 51, none, .mov (.t 6)⟩,
             ⟨some 52, none, .mov (.t 4)⟩,
             ⟨some 53, none, .bin .mul (.c (.d (.i .i64 1000))) (.t 52)⟩,
             ⟨some 54, none, .mov (.t 5)⟩,
             ⟨some 55, none, .bin .mul (.c (.d (.i .i64 100))) (.t 54)⟩,
             ⟨some 56, none, .bin .add (.t 53) (.t 55)⟩,
             ⟨some 57, none, .call 226 [.t 50, .t 51, .t 56]⟩] false [])
            (.keep [0, 3, 4, 5, 7] (.region [⟨some 58, none, .mov (.t 3)⟩,
             ⟨some 59, none, .mov (.t 7)⟩,
             ⟨some 60, none, .mov (.t 4)⟩,
             ⟨some 61, none, .bin .mul (.c (.d (.i .i64 1000))) (.t 60)⟩,
             ⟨some 62, none, .mov (.t 5)⟩,
             ⟨some 63, none, .bin .mul (.c (.d (.i .i64 100))) (.t 62)⟩,
             ⟨some 64, none, .bin .add (.t 61) (.t 63)⟩,
             ⟨some 65, none, .bin .add (.t 64) (.c (.d (.i .i64 50)))⟩,
             ⟨some 66, none, .call 226 [.t 58, .t 59, .t 65]⟩] false []))))))))))
          (.keep [0, 3, 4, 5] (.region [⟨some 20, none, .mov (.t 5)⟩,
           ⟨some 21, none, .bin .add (.t 20) (.c (.d (.i .i64 1)))⟩,
           ⟨some 5, none, .mov (.t 21)⟩] false []))))
def F227_spindlelaw2_IsaOwns_b0 : SCode :=
  .seq
      (.seq
      (.region [⟨some 12, none, .mov (.t 4)⟩,
       ⟨some 13, none, .mov (.t 0)⟩,
       ⟨some 14, none, .len false (.t 13)⟩,
       ⟨some 15, none, .bin .lss (.t 12) (.t 14)⟩] false [])
      (.keep [0, 3, 4, 15] (.cond (.t 15)
       (.skip)
       (.exit 0))))
      (.keep [0, 3, 4] (.seq
      (.block 1 (.seq
       (.seq
        (.region [⟨some 5, none, .mov (.c (.d (.i .i64 0)))⟩] false [])
        (.keep [0, 3, 4, 5] (.block 2 (.loop [0, 3, 4, 5] false F227_spindlelaw2_IsaOwns_b1))))
       (.keep [0, 3, 4] (.seq
        (.seq
        (.region [⟨some 67, none, .mov (.t 4)⟩,
         ⟨some 68, none, .bin .lss (.t 67) (.c (.d (.i .i64 3)))⟩] false [])
        (.keep [0, 3, 4, 68] (.cond (.t 68)
         (.keep [0, 3, 4] (.seq
         (.region [⟨some 69, none, .call 238 []⟩,
          ⟨some 8, none, .mov (.t 69)⟩] false [])
         (.keep [0, 3, 4, 8] (.seq
          (.seq
          (.region [⟨some 70, none, .mov (.t 8)⟩,
           ⟨some 71, none, .call 15 []⟩,
           ⟨some 72, none, .call 16 [.t 70, .t 71]⟩,
           ⟨some 73, none, .un .not (.t 72)⟩] false [])
          (.keep [0, 3, 4, 8, 73] (.cond (.t 73)
           (.keep [] (.seq
           (.region [⟨some 2, none, .mov (.c (.d (.b false)))⟩] false [])
           (.ret)))
           (.skip))))
          (.keep [0, 3, 4, 8] (.region [⟨some 74, none, .mov (.t 3)⟩,
           ⟨some 75, none, .mov (.t 8)⟩,
           ⟨some 76, none, .mov (.t 4)⟩,
           ⟨some 77, none, .bin .mul (.c (.d (.i .i64 1000))) (.t 76)⟩,
           ⟨some 78, none, .bin .add (.t 77) (.c (.d (.i .i64 900)))⟩,
           ⟨some 79, none, .call 226 [.t 74, .t 75, .t 78]⟩] false []))))))
         (.skip))))
        (.keep [0, 3, 4] (.seq
        (.region [⟨some 80, none, .mov (.t 4)⟩,
         ⟨some 81, none, .bin .rem (.t 80) (.c (.d (.i .i64 8)))⟩,
         ⟨some 82, none, .bin .eql (.t 81) (.c (.d (.i .i64 7)))⟩,
         ⟨some 83, none, .mov (.t 82)⟩,
         ⟨some 84, (some (3, true)), .mov (.t 3)⟩,
         ⟨some 85, (some (3, true)), .call 228 [.t 84]⟩,
         ⟨some 86, (some (3, true)), .un .not (.t 85)⟩,
         ⟨some 87, none, .pick (.t 83) (.t 86) (.c (.d (.b false)))⟩] false [])
        (.keep [0, 3, 4, 87] (.cond (.t 87)
         (.keep [] (.seq
         (.region [⟨some 2, none, .mov (.c (.d (.b false)))⟩] false [])
         (.ret)))
         (.skip)))))))))
      (.keep [0, 3, 4] (.region [⟨some 16, none, .mov (.t 4)⟩,
       ⟨some 17, none, .bin .add (.t 16) (.c (.d (.i .i64 1)))⟩,
       ⟨some 4, none, .mov (.t 17)⟩] false []))))
/-- spindle/spindlelaw2.IsaOwns -/
def F227_spindlelaw2_IsaOwns : SFn := ⟨1, true, true, [.tmp 2],
  .seq
   (.region [⟨some 2, none, .mov (.c (.d (.b false)))⟩] false [])
   (.keep [0] (.seq
   (.region [⟨some 10, none, .build [.i .i64 0, .i .i64 0, .b false, .sl 0 false [], .sl 0 false [], .sl 0 false [], .sl 0 false [], .sl 0 false []] []⟩,
    ⟨some 11, none, .box (.t 10)⟩,
    ⟨some 3, none, .mov (.t 11)⟩] false [])
   (.keep [0, 3] (.seq
    (.seq
    (.region [⟨some 4, none, .mov (.c (.d (.i .i64 0)))⟩] false [])
    (.keep [0, 3, 4] (.block 0 (.loop [0, 3, 4] false F227_spindlelaw2_IsaOwns_b0))))
    (.keep [3] (.seq
    (.region [⟨some 88, none, .call 238 []⟩,
     ⟨some 9, none, .mov (.t 88)⟩] false [])
    (.keep [3, 9] (.seq
     (.region [⟨some 89, none, .mov (.t 9)⟩,
      ⟨some 90, none, .call 15 []⟩,
      ⟨some 91, none, .call 16 [.t 89, .t 90]⟩,
      ⟨some 92, none, .mov (.t 91)⟩,
      ⟨some 93, (some (3, true)), .mov (.t 3)⟩,
      ⟨some 94, (some (3, true)), .call 228 [.t 93]⟩,
      ⟨some 95, none, .pick (.t 92) (.t 94) (.c (.d (.b false)))⟩,
      ⟨some 96, none, .mov (.t 95)⟩,
      ⟨some 97, (some (7, true)), .call 25 []⟩,
      ⟨some 98, none, .pick (.t 96) (.t 97) (.c (.d (.b false)))⟩,
      ⟨some 2, none, .mov (.t 98)⟩] false [])
     (.ret)))))))))⟩
end Go.Sh
